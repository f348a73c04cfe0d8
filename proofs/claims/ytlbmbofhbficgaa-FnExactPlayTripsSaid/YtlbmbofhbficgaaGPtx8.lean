-- Laid by wip/gprint.py (the session's own program, round the kit's printer) for this claim.
import Derived.Test.YtlbmbofhbficgaaGPtx0
import Derived.Test.YtlbmbofhbficgaaGPtx1
import Derived.Test.YtlbmbofhbficgaaGPtx2
import Derived.Test.YtlbmbofhbficgaaGPtx5
import Derived.Test.YtlbmbofhbficgaaGPtx7
namespace Go.Proofs.Ytlbmbofhbficgaa.G
open Go.RowKit Go.Proofs.YtlbmbofhbficgaaW.PrintWords Go.Proofs.YtlbmbofhbficgaaW.PrintLast Go.Proofs.YtlbmbofhbficgaaW.PrintMore
attribute [local go_sem] max2_int min2_int max_two min_two max_three min_three max_four min_four   -- for this text's walks alone
set_option linter.unusedVariables false
set_option linter.unusedSimpArgs false

/-! ### laws_FnExactPlayTrips: function 13 -/
theorem laws_FnExactPlayTrips.newR {α : Type} {d : Kd α} {e T : Nat} {w W W' : World} {v : Value} {xs : List α} (h : d.R e W' W.heap.size (fun _ => True) v xs) (ht : T ≤ W.heap.size) (hw : w.heap.size ≤ W.heap.size) (hs : W.heap.size ≤ W'.heap.size) : ∃ lo hi : Nat, (T ≤ lo ∧ lo ≤ hi) ∧ hi ≤ W'.heap.size ∧ d.R e W' w.heap.size (fun k_ => lo ≤ k_ ∧ k_ < hi) v xs :=
  ⟨W.heap.size, W'.heap.size, ⟨ht, hs⟩, Nat.le_refl _, Kd.R_lower (Kd.R_mono (Kd.R_bound h) (fun _ hk => ⟨hk.2.1, hk.2.2.1⟩)) hw⟩
theorem laws_FnExactPlayTrips.newS {α : Type} {d : Kd α} {e T : Nat} {w W W' : World} {v : Value} {xs : List α} (h : Kd.S d e W' W.heap.size (fun _ => True) v xs) (ht : T ≤ W.heap.size) (hw : w.heap.size ≤ W.heap.size) (hs : W.heap.size ≤ W'.heap.size) : ∃ lo hi : Nat, (T ≤ lo ∧ lo ≤ hi) ∧ hi ≤ W'.heap.size ∧ Kd.S d e W' w.heap.size (fun k_ => lo ≤ k_ ∧ k_ < hi) v xs :=
  ⟨W.heap.size, W'.heap.size, ⟨ht, hs⟩, Nat.le_refl _, Kd.S_lower (Kd.S_mono (Kd.S_bound h) (fun _ hk => ⟨hk.2.1, hk.2.2.1⟩)) hw⟩
theorem laws_FnExactPlayTrips.grownR {α : Type} {d : Kd α} {e b lo hi g : Nat} {W W' : World} {v : Value} {xs : List α} (h : d.R e W b (fun k_ => lo ≤ k_ ∧ k_ < hi) v xs) (hg : W.grownBy W' (some g)) (hne : g < lo ∨ hi ≤ g) : d.R e W' b (fun k_ => lo ≤ k_ ∧ k_ < hi) v xs :=
  Kd.R_grown h hg (fun k hk he => by injection he with he; have h1 := hk.1; have h2 := hk.2; omega)
theorem laws_FnExactPlayTrips.grownS {α : Type} {d : Kd α} {e b lo hi g : Nat} {W W' : World} {v : Value} {xs : List α} (h : Kd.S d e W b (fun k_ => lo ≤ k_ ∧ k_ < hi) v xs) (hg : W.grownBy W' (some g)) (hne : g < lo ∨ hi ≤ g) : Kd.S d e W' b (fun k_ => lo ≤ k_ ∧ k_ < hi) v xs :=
  Kd.S_grown h hg (fun k hk he => by injection he with he; have h1 := hk.1; have h2 := hk.2; omega)
theorem laws_FnExactPlayTrips.keptR {α : Type} {d : Kd α} {e b lo hi lo' hi' : Nat} {W W' : World} {v : Value} {xs : List α} (h : d.R e W b (fun k_ => lo ≤ k_ ∧ k_ < hi) v xs) (hk : Kept W W' (fun k_ => lo' ≤ k_ ∧ k_ < hi')) (hne : hi ≤ lo' ∨ hi' ≤ lo) : d.R e W' b (fun k_ => lo ≤ k_ ∧ k_ < hi) v xs :=
  Kd.R_kept h hk (fun k h1 h2 => by have h3 := h1.1; have h4 := h1.2; have h5 := h2.1; have h6 := h2.2; omega)
theorem laws_FnExactPlayTrips.keptS {α : Type} {d : Kd α} {e b lo hi lo' hi' : Nat} {W W' : World} {v : Value} {xs : List α} (h : Kd.S d e W b (fun k_ => lo ≤ k_ ∧ k_ < hi) v xs) (hk : Kept W W' (fun k_ => lo' ≤ k_ ∧ k_ < hi')) (hne : hi ≤ lo' ∨ hi' ≤ lo) : Kd.S d e W' b (fun k_ => lo ≤ k_ ∧ k_ < hi) v xs :=
  Kd.S_kept h hk (fun k h1 h2 => by have h3 := h1.1; have h4 := h1.2; have h5 := h2.1; have h6 := h2.2; omega)
theorem laws_FnExactPlayTrips.keptB {lo hi g : Nat} {o : Obj} {W W' : World} (h : W.heap[g]? = some o) (hk : Kept W W' (fun k_ => lo ≤ k_ ∧ k_ < hi)) (hne : g < lo ∨ hi ≤ g) : W'.heap[g]? = some o :=
  blk_kept h hk (fun h2 => by have h5 := h2.1; have h6 := h2.2; omega)
theorem laws_FnExactPlayTrips.grownB {g g' : Nat} {o : Obj} {W W' : World} (h : W.heap[g]? = some o) (hg : W.grownBy W' (some g')) (hne : g ≠ g') : W'.heap[g]? = some o :=
  (hg.block g (blk_lt h) (fun he => hne (by injection he))).trans h
theorem laws_FnExactPlayTrips.runs {P : Program} {W : World} {g T : Nat} {cur : Array Value} (t : TypeId) (u : Value) (new : List Value) (hb : W.heap[g]? = some (.cells cur T (0, 0))) (hu : u.cells.toList = new) (ht : (P.info? t).map (·.size) = some new.length) (hsz : new.length = cur.size) (h1 : ∀ q ∈ new, q.oneCell' = true) :
    ∃ w1, (Instr.storeAt t (.pointer (some ⟨g, 0, none⟩)) u).run P W = .ok () w1 ∧ w1.heap[g]? = some (.cells new.toArray T (0, 0)) ∧ W.grownBy w1 (some g) := by
  refine ⟨W.setCells g 0 new, run_store_run t u new hb hu ht (by omega) h1, ?_, ?_⟩
  · obtain ⟨cur', c1, c2, c3⟩ := setCells_row new 0 W cur hb (by omega)
    rw [c1]
    rw [List.take_zero, List.nil_append, Nat.zero_add, hsz, List.drop_eq_nil_of_le (by rw [Array.length_toList]; omega), List.append_nil] at c3
    rw [← c3]
  · obtain ⟨s1, s2, s3, s4⟩ := setCells_same g new 0 W
    exact ⟨s1, s2, s3, by rw [s4]; exact Nat.le_refl _, fun k _ hk => setCells_far _ _ k (fun he => hk (by rw [he]))⟩
theorem laws_FnExactPlayTrips.store {P : Program} {ops : Array Oper} {rest : List Oper} {o : Oper} {a : Act} {Q : Exit → Act → World → Prop} {W : World} (hgd : o.guard = none) (hN : o.dst = none) {t : TypeId} {p : Tmp} {x : Operand} (ho : o.op = .store t (.tmp p) x) (g T : Nat) (cur : Array Value) (u : Value) (new : List Value) (haddr : a.eval (.tmp p) = .pointer (some ⟨g, 0, none⟩)) (hx : a.eval x = u) (hb : W.heap[g]? = some (.cells cur T (0, 0))) (hu : u.cells.toList = new) (ht : (P.info? t).map (·.size) = some new.length) (hsz : new.length = cur.size) (h1 : ∀ q ∈ new, q.oneCell' = true)
    (h : ∀ w1, w1.heap[g]? = some (.cells new.toArray T (0, 0)) → W.grownBy w1 (some g) → wpList P ops Q rest a w1) : wpList P ops Q (o :: rest) a W := by
  obtain ⟨w1, hrun, h2, h3⟩ := laws_FnExactPlayTrips.runs (P := P) t u new hb hu ht hsz h1
  refine wpList_plain hgd fun K hK => ?_
  unfold Oper.wp execOp
  simp only [ho, haddr, hx, Sem.run_bind, Sem.run_pure, Result.andThen_ok, hrun]
  show K (a.put o.dst undef) _
  rw [hN]
  exact hK _ _ (h w1 h2 h3)
theorem laws_FnExactPlayTrips.storeK {P : Program} {ops : Array Oper} {o : Oper} {a : Act} {Q : Exit → Act → World → Prop} {Kc : Act → World → Prop} {W : World} (hw : Region.wanted o (yielded ops a.tmps) = true) (hN : o.dst = none) {t : TypeId} {p : Tmp} {x : Operand} (ho : o.op = .store t (.tmp p) x) (g T : Nat) (cur : Array Value) (u : Value) (new : List Value) (haddr : a.eval (.tmp p) = .pointer (some ⟨g, 0, none⟩)) (hx : a.eval x = u) (hb : W.heap[g]? = some (.cells cur T (0, 0))) (hu : u.cells.toList = new) (ht : (P.info? t).map (·.size) = some new.length) (hsz : new.length = cur.size) (h1 : ∀ q ∈ new, q.oneCell' = true)
    (h : ∀ w1, w1.heap[g]? = some (.cells new.toArray T (0, 0)) → W.grownBy w1 (some g) → Kc a w1) : if Region.wanted o (yielded ops a.tmps) = true then Oper.wp P o a W Kc Q else Kc (a.put none undef) W := by
  obtain ⟨w1, hrun, h2, h3⟩ := laws_FnExactPlayTrips.runs (P := P) t u new hb hu ht hsz h1
  rw [if_pos hw]
  unfold Oper.wp execOp
  simp only [ho, haddr, hx, Sem.run_bind, Sem.run_pure, Result.andThen_ok, hrun]
  show Kc (a.put o.dst undef) _
  rw [hN]
  exact h w1 h2 h3
def laws_FnExactPlayTrips.f (k : Nat) (l0_0 : List Int) (a0_1 : Int) (l1_0 : List Bool) (a1_1 : Bool) (l2 : List (List Int)) : Option Bool := (laws_szParty.f l0_0 a0_1 1048576).bind fun b1 => (if b1 < 0 then some true else ((laws_szState.f l1_0 a1_1 b1).bind fun b3 => (if b3 < 0 then some true else ((laws_szIntSS.f k l2 b3).bind fun b5 => (if b5 < 0 then some true else ((laws_toParty.f k l0_0 a0_1).bind fun b7 => ((laws_toState.f k l1_0 a1_1).bind fun b11 => ((laws_toIntSS.f k l2).bind fun b15 => ((spec_PlayTrips.f k b7.1 b7.2 b11.1 b11.2 b15).bind fun b18 => ((laws_toParty.f k l0_0 a0_1).bind fun b23 => ((laws_toState.f k l1_0 a1_1).bind fun b27 => ((laws_toIntSS.f k l2).bind fun b31 => ((impl_PlayTrips.f k b23.1 b23.2 b27.1 b27.2 b31).bind fun b34 => ((laws_eqState.f k b34.1 b34.2.1 b18.1 b18.2.1).bind fun b39 => (if b39 = true then (if (b34.2.2 != b18.2.2) = true then none else ((laws_toParty.f k l0_0 a0_1).bind fun b41 => ((laws_eqParty.f k b23.1 b23.2 b41.1 b41.2).bind fun b45 => (if b45 = true then ((laws_toState.f k l1_0 a1_1).bind fun b47 => ((laws_eqState.f k b27.1 b27.2 b47.1 b47.2).bind fun b51 => (if b51 = true then ((laws_toIntSS.f k l2).bind fun b53 => ((laws_eqIntSS.f k b31 b53).bind fun b56 => (if b56 = true then ((laws_markParty.f k b23.1 b23.2 1).bind fun b58 => ((laws_markState.f k b27.1 b27.2 b58.1).bind fun b61 => ((laws_markIntSS.f k b31 b61.1).bind fun b64 => ((laws_eqState.f k b34.1 b34.2.1 b18.1 b18.2.1).bind fun b67 => (if b64.1 < 0 then none else (if b67 = true then (if (b34.2.2 != b18.2.2) = true then none else ((laws_markState.f k b34.1 b34.2.1 1).bind fun b69 => ((laws_heldState.f k b69.2 b34.2.1 1).bind fun b72 => (if b72 < 0 then none else (if b72 = b69.1 then ((laws_toParty.f k l0_0 a0_1).bind fun b74 => ((laws_toState.f k l1_0 a1_1).bind fun b78 => ((laws_toIntSS.f k l2).bind fun b82 => ((impl_PlayTrips.f k b74.1 b74.2 b78.1 b78.2 b82).bind fun b85 => ((laws_eqState.f k b85.1 b85.2.1 b18.1 b18.2.1).bind fun b90 => (if b90 = true then (if (b85.2.2 != b18.2.2) = true then none else ((laws_heldState.f k b69.2 b34.2.1 1).bind fun b92 => (if b92 < 0 then none else (if b92 = b69.1 then (some true) else none)))) else none)))))) else none))))) else none)))))) else none))) else none))) else none)))) else none)))))))))))))))
set_option maxHeartbeats 16000000 in
set_option maxRecDepth 100000 in
theorem laws_FnExactPlayTrips.calls (k : Nat) (A0_0 : Option Addr) (c0_0 : Nat) (l0_0 : List Int) (a0_1 : Int) (A1_0 : Option Addr) (c1_0 : Nat) (l1_0 : List Bool) (a1_1 : Bool) (A2 : Option Addr) (c2 : Nat) (l2 : List (List Int)) (r : Bool) (w : World) (hr0_0 : Kd.C (Kd.int .i64) w A0_0 l0_0.length l0_0) (hc0_0 : l0_0.length ≤ c0_0) (hr1_0 : Kd.C Kd.bool w A1_0 l1_0.length l1_0) (hc1_0 : l1_0.length ≤ c1_0) (hr2 : Kd.C (Kd.slice 3 (Kd.int .i64)) w A2 l2.length l2) (hc2 : l2.length ≤ c2) (h : laws_FnExactPlayTrips.f k l0_0 a0_1 l1_0 a1_1 l2 = some r) :
    Calls Try.prog 13 #[.agg #[.slice A0_0 l0_0.length c0_0, .int .i64 a0_1], .agg #[.slice A1_0 l1_0.length c1_0, .bool a1_1], .slice A2 l2.length c2] w fun e w' => e = .returned (.bool r) ∧ Below w.heap.size w w' := by
  have hu24 := Try.underlying24
  have hu27 := Try.underlying27
  have hu42 := Try.underlying42
  have hu46 := Try.underlying46
  have HR0_0 := Aside0.mk hr0_0
  have HC0_0 := Aside0.mk hc0_0
  have HR1_0 := Aside0.mk hr1_0
  have HC1_0 := Aside0.mk hc1_0
  have HR2 := Aside0.mk hr2
  have HC2 := Aside0.mk hc2
  clear hr0_0 hc0_0 hr1_0 hc1_0 hr2 hc2
  have HB := Aside0.mk (Below.refl w.heap.size w)
  have HT := Aside0.mk (Nat.le_refl w.heap.size)
  have HN := Aside0.mk trivial
  have H := h
  unfold laws_FnExactPlayTrips.f at H
  clear h
  obtain ⟨t2, A1_, H⟩ := Option.bind_eq_some_iff.mp H
  have A1 := Aside0.mk A1_
  clear A1_
  (try dsimp only at A1 H)
  by_cases c94 : t2 < 0
  · rw [if_pos c94] at H
    have c94b0 : decide (t2 < 0) = true := decide_eq_true c94
    clear c94
    obtain rfl := Option.some.inj H
    go_enter Try.func13, Try.ntmps13
    try go_wp2_with (first | ((with_reducible refine gate_dst (N := 3) rfl ?_); refine box_event ?hg (N := 3) ?hd (cs := #[.slice A0_0 l0_0.length c0_0, .int .i64 a0_1]) (t := 24) ?hr ?_; (case hd => rfl); (case hg => rfl); (case hr => first | (go_simp; done) | (go_simp; rfl)); intro gb1 hg W1 hbox hb; have nn : w.heap.size ≤ gb1 := Nat.le_trans HT.out (Nat.le_of_eq hg.symm); have GE1 := Aside0.mk (Nat.le_trans (below_size HB.out) (Nat.le_of_eq hg.symm)); replace HB := Aside0.mk (below_step HB.out hb); replace HT := Aside0.mk (Nat.le_trans HT.out hb.size); have BK1 := Aside0.mk hbox; replace HT := Aside0.mk (Nat.succ_le_of_lt (blk_lt hbox)); replace HN := Aside0.mk (And.intro nn HN.out); clear hg hbox hb nn) | ((with_reducible refine gate_dst (N := 4) rfl ?_); refine box_event ?hg (N := 4) ?hd (cs := #[.slice A1_0 l1_0.length c1_0, .bool a1_1]) (t := 42) ?hr ?_; (case hd => rfl); (case hg => rfl); (case hr => first | (go_simp; done) | (go_simp; rfl)); intro gb2 hg W2 hbox hb; have nn : gb1.succ ≤ gb2 := Nat.le_trans HT.out (Nat.le_of_eq hg.symm); have GE2 := Aside0.mk (Nat.le_trans (below_size HB.out) (Nat.le_of_eq hg.symm)); replace BK1 := Aside0.mk (blk_below (g := gb1) (o := .cells #[.slice A0_0 l0_0.length c0_0, .int .i64 a0_1] 24 (0, 0)) BK1.out hb); replace HB := Aside0.mk (below_step HB.out hb); replace HT := Aside0.mk (Nat.le_trans HT.out hb.size); have BK2 := Aside0.mk hbox; replace HT := Aside0.mk (Nat.succ_le_of_lt (blk_lt hbox)); replace HN := Aside0.mk (And.intro nn HN.out); clear hg hbox hb nn; have cz1_0 : W2.cell? ⟨gb1, 0, none⟩ = some (.slice A0_0 l0_0.length c0_0) := (blk_cell BK1.out 0).trans rfl; have cz1_1 : W2.cell? ⟨gb1, 1, none⟩ = some (.int .i64 a0_1) := (blk_cell BK1.out 1).trans rfl) | ((with_reducible refine gate_dst (N := 22) rfl ?_); refine goesL_ (some 22) rfl rfl Try.func15 (by kernel_rfl) rfl #[.agg #[.slice A0_0 l0_0.length c0_0, .int .i64 a0_1], .int .i64 1048576] rfl (by (try simp only [List.map_toArray, List.map_cons, List.map_nil]); first | done | rfl) ?_; (with_reducible refine (laws_szParty.calls _ _ l0_0 a0_1 1048576 t2 _ (Kd.C_below HR0_0.out HB.out) HC0_0.out A1.out).mono ?_); rintro e W3 ⟨rfl, hb⟩; refine ⟨_, rfl, ?_⟩; replace BK1 := Aside0.mk (blk_below (g := gb1) (o := .cells #[.slice A0_0 l0_0.length c0_0, .int .i64 a0_1] 24 (0, 0)) BK1.out hb); replace BK2 := Aside0.mk (blk_below (g := gb2) (o := .cells #[.slice A1_0 l1_0.length c1_0, .bool a1_1] 42 (0, 0)) BK2.out hb); replace HB := Aside0.mk (below_step HB.out hb); replace HT := Aside0.mk (Nat.le_trans HT.out hb.size); clear hb; (try clear cz1_0 cz1_1)))
    go_ret
    exact ⟨by first | rfl | (simp; done) | (simp [*]; done), HB.out⟩
  rw [if_neg c94] at H
  have c94b0 : decide (t2 < 0) = false := decide_eq_false c94
  clear c94
  obtain ⟨t4, A3_, H⟩ := Option.bind_eq_some_iff.mp H
  have A3 := Aside0.mk A3_
  clear A3_
  (try dsimp only at A3 H)
  by_cases c95 : t4 < 0
  · rw [if_pos c95] at H
    have c95b0 : decide (t4 < 0) = true := decide_eq_true c95
    clear c95
    obtain rfl := Option.some.inj H
    go_enter Try.func13, Try.ntmps13
    try go_wp2_with (first | ((with_reducible refine gate_dst (N := 3) rfl ?_); refine box_event ?hg (N := 3) ?hd (cs := #[.slice A0_0 l0_0.length c0_0, .int .i64 a0_1]) (t := 24) ?hr ?_; (case hd => rfl); (case hg => rfl); (case hr => first | (go_simp; done) | (go_simp; rfl)); intro gb1 hg W4 hbox hb; have nn : w.heap.size ≤ gb1 := Nat.le_trans HT.out (Nat.le_of_eq hg.symm); have GE1 := Aside0.mk (Nat.le_trans (below_size HB.out) (Nat.le_of_eq hg.symm)); replace HB := Aside0.mk (below_step HB.out hb); replace HT := Aside0.mk (Nat.le_trans HT.out hb.size); have BK1 := Aside0.mk hbox; replace HT := Aside0.mk (Nat.succ_le_of_lt (blk_lt hbox)); replace HN := Aside0.mk (And.intro nn HN.out); clear hg hbox hb nn) | ((with_reducible refine gate_dst (N := 4) rfl ?_); refine box_event ?hg (N := 4) ?hd (cs := #[.slice A1_0 l1_0.length c1_0, .bool a1_1]) (t := 42) ?hr ?_; (case hd => rfl); (case hg => rfl); (case hr => first | (go_simp; done) | (go_simp; rfl)); intro gb2 hg W5 hbox hb; have nn : gb1.succ ≤ gb2 := Nat.le_trans HT.out (Nat.le_of_eq hg.symm); have GE2 := Aside0.mk (Nat.le_trans (below_size HB.out) (Nat.le_of_eq hg.symm)); replace BK1 := Aside0.mk (blk_below (g := gb1) (o := .cells #[.slice A0_0 l0_0.length c0_0, .int .i64 a0_1] 24 (0, 0)) BK1.out hb); replace HB := Aside0.mk (below_step HB.out hb); replace HT := Aside0.mk (Nat.le_trans HT.out hb.size); have BK2 := Aside0.mk hbox; replace HT := Aside0.mk (Nat.succ_le_of_lt (blk_lt hbox)); replace HN := Aside0.mk (And.intro nn HN.out); clear hg hbox hb nn; have cz1_0 : W5.cell? ⟨gb1, 0, none⟩ = some (.slice A0_0 l0_0.length c0_0) := (blk_cell BK1.out 0).trans rfl; have cz1_1 : W5.cell? ⟨gb1, 1, none⟩ = some (.int .i64 a0_1) := (blk_cell BK1.out 1).trans rfl) | ((with_reducible refine gate_dst (N := 22) rfl ?_); refine goesL_ (some 22) rfl rfl Try.func15 (by kernel_rfl) rfl #[.agg #[.slice A0_0 l0_0.length c0_0, .int .i64 a0_1], .int .i64 1048576] rfl (by (try simp only [List.map_toArray, List.map_cons, List.map_nil]); first | done | rfl) ?_; (with_reducible refine (laws_szParty.calls _ _ l0_0 a0_1 1048576 t2 _ (Kd.C_below HR0_0.out HB.out) HC0_0.out A1.out).mono ?_); rintro e W6 ⟨rfl, hb⟩; refine ⟨_, rfl, ?_⟩; replace BK1 := Aside0.mk (blk_below (g := gb1) (o := .cells #[.slice A0_0 l0_0.length c0_0, .int .i64 a0_1] 24 (0, 0)) BK1.out hb); replace BK2 := Aside0.mk (blk_below (g := gb2) (o := .cells #[.slice A1_0 l1_0.length c1_0, .bool a1_1] 42 (0, 0)) BK2.out hb); replace HB := Aside0.mk (below_step HB.out hb); replace HT := Aside0.mk (Nat.le_trans HT.out hb.size); clear hb; (try clear cz1_0 cz1_1); have cz2_0 : W6.cell? ⟨gb2, 0, none⟩ = some (.slice A1_0 l1_0.length c1_0) := (blk_cell BK2.out 0).trans rfl; have cz2_1 : W6.cell? ⟨gb2, 1, none⟩ = some (.bool a1_1) := (blk_cell BK2.out 1).trans rfl) | ((with_reducible refine gate_dst (N := 27) rfl ?_); refine goesL_ (some 27) rfl rfl Try.func30 (by kernel_rfl) rfl #[.agg #[.slice A1_0 l1_0.length c1_0, .bool a1_1], .int .i64 t2] rfl (by (try simp only [List.map_toArray, List.map_cons, List.map_nil]); first | done | rfl) ?_; (with_reducible refine (laws_szState.calls _ _ l1_0 a1_1 t2 t4 _ (Kd.C_below HR1_0.out HB.out) HC1_0.out A3.out).mono ?_); rintro e W7 ⟨rfl, hb⟩; refine ⟨_, rfl, ?_⟩; replace BK1 := Aside0.mk (blk_below (g := gb1) (o := .cells #[.slice A0_0 l0_0.length c0_0, .int .i64 a0_1] 24 (0, 0)) BK1.out hb); replace BK2 := Aside0.mk (blk_below (g := gb2) (o := .cells #[.slice A1_0 l1_0.length c1_0, .bool a1_1] 42 (0, 0)) BK2.out hb); replace HB := Aside0.mk (below_step HB.out hb); replace HT := Aside0.mk (Nat.le_trans HT.out hb.size); clear hb; (try clear cz2_0 cz2_1)))
    go_ret
    exact ⟨by first | rfl | (simp; done) | (simp [*]; done), HB.out⟩
  rw [if_neg c95] at H
  have c95b0 : decide (t4 < 0) = false := decide_eq_false c95
  clear c95
  obtain ⟨t6, A5_, H⟩ := Option.bind_eq_some_iff.mp H
  have A5 := Aside0.mk A5_
  clear A5_
  (try dsimp only at A5 H)
  by_cases c96 : t6 < 0
  · rw [if_pos c96] at H
    have c96b0 : decide (t6 < 0) = true := decide_eq_true c96
    clear c96
    obtain rfl := Option.some.inj H
    go_enter Try.func13, Try.ntmps13
    try go_wp2_with (first | ((with_reducible refine gate_dst (N := 3) rfl ?_); refine box_event ?hg (N := 3) ?hd (cs := #[.slice A0_0 l0_0.length c0_0, .int .i64 a0_1]) (t := 24) ?hr ?_; (case hd => rfl); (case hg => rfl); (case hr => first | (go_simp; done) | (go_simp; rfl)); intro gb1 hg W8 hbox hb; have nn : w.heap.size ≤ gb1 := Nat.le_trans HT.out (Nat.le_of_eq hg.symm); have GE1 := Aside0.mk (Nat.le_trans (below_size HB.out) (Nat.le_of_eq hg.symm)); replace HB := Aside0.mk (below_step HB.out hb); replace HT := Aside0.mk (Nat.le_trans HT.out hb.size); have BK1 := Aside0.mk hbox; replace HT := Aside0.mk (Nat.succ_le_of_lt (blk_lt hbox)); replace HN := Aside0.mk (And.intro nn HN.out); clear hg hbox hb nn) | ((with_reducible refine gate_dst (N := 4) rfl ?_); refine box_event ?hg (N := 4) ?hd (cs := #[.slice A1_0 l1_0.length c1_0, .bool a1_1]) (t := 42) ?hr ?_; (case hd => rfl); (case hg => rfl); (case hr => first | (go_simp; done) | (go_simp; rfl)); intro gb2 hg W9 hbox hb; have nn : gb1.succ ≤ gb2 := Nat.le_trans HT.out (Nat.le_of_eq hg.symm); have GE2 := Aside0.mk (Nat.le_trans (below_size HB.out) (Nat.le_of_eq hg.symm)); replace BK1 := Aside0.mk (blk_below (g := gb1) (o := .cells #[.slice A0_0 l0_0.length c0_0, .int .i64 a0_1] 24 (0, 0)) BK1.out hb); replace HB := Aside0.mk (below_step HB.out hb); replace HT := Aside0.mk (Nat.le_trans HT.out hb.size); have BK2 := Aside0.mk hbox; replace HT := Aside0.mk (Nat.succ_le_of_lt (blk_lt hbox)); replace HN := Aside0.mk (And.intro nn HN.out); clear hg hbox hb nn; have cz1_0 : W9.cell? ⟨gb1, 0, none⟩ = some (.slice A0_0 l0_0.length c0_0) := (blk_cell BK1.out 0).trans rfl; have cz1_1 : W9.cell? ⟨gb1, 1, none⟩ = some (.int .i64 a0_1) := (blk_cell BK1.out 1).trans rfl) | ((with_reducible refine gate_dst (N := 22) rfl ?_); refine goesL_ (some 22) rfl rfl Try.func15 (by kernel_rfl) rfl #[.agg #[.slice A0_0 l0_0.length c0_0, .int .i64 a0_1], .int .i64 1048576] rfl (by (try simp only [List.map_toArray, List.map_cons, List.map_nil]); first | done | rfl) ?_; (with_reducible refine (laws_szParty.calls _ _ l0_0 a0_1 1048576 t2 _ (Kd.C_below HR0_0.out HB.out) HC0_0.out A1.out).mono ?_); rintro e W10 ⟨rfl, hb⟩; refine ⟨_, rfl, ?_⟩; replace BK1 := Aside0.mk (blk_below (g := gb1) (o := .cells #[.slice A0_0 l0_0.length c0_0, .int .i64 a0_1] 24 (0, 0)) BK1.out hb); replace BK2 := Aside0.mk (blk_below (g := gb2) (o := .cells #[.slice A1_0 l1_0.length c1_0, .bool a1_1] 42 (0, 0)) BK2.out hb); replace HB := Aside0.mk (below_step HB.out hb); replace HT := Aside0.mk (Nat.le_trans HT.out hb.size); clear hb; (try clear cz1_0 cz1_1); have cz2_0 : W10.cell? ⟨gb2, 0, none⟩ = some (.slice A1_0 l1_0.length c1_0) := (blk_cell BK2.out 0).trans rfl; have cz2_1 : W10.cell? ⟨gb2, 1, none⟩ = some (.bool a1_1) := (blk_cell BK2.out 1).trans rfl) | ((with_reducible refine gate_dst (N := 27) rfl ?_); refine goesL_ (some 27) rfl rfl Try.func30 (by kernel_rfl) rfl #[.agg #[.slice A1_0 l1_0.length c1_0, .bool a1_1], .int .i64 t2] rfl (by (try simp only [List.map_toArray, List.map_cons, List.map_nil]); first | done | rfl) ?_; (with_reducible refine (laws_szState.calls _ _ l1_0 a1_1 t2 t4 _ (Kd.C_below HR1_0.out HB.out) HC1_0.out A3.out).mono ?_); rintro e W11 ⟨rfl, hb⟩; refine ⟨_, rfl, ?_⟩; replace BK1 := Aside0.mk (blk_below (g := gb1) (o := .cells #[.slice A0_0 l0_0.length c0_0, .int .i64 a0_1] 24 (0, 0)) BK1.out hb); replace BK2 := Aside0.mk (blk_below (g := gb2) (o := .cells #[.slice A1_0 l1_0.length c1_0, .bool a1_1] 42 (0, 0)) BK2.out hb); replace HB := Aside0.mk (below_step HB.out hb); replace HT := Aside0.mk (Nat.le_trans HT.out hb.size); clear hb; (try clear cz2_0 cz2_1)) | ((with_reducible refine gate_dst (N := 32) rfl ?_); refine goesL_ (some 32) rfl rfl Try.func46 (by kernel_rfl) rfl #[.slice A2 l2.length c2, .int .i64 t4] rfl (by (try simp only [List.map_toArray, List.map_cons, List.map_nil]); first | done | rfl) ?_; (with_reducible refine (laws_szIntSS.calls k _ _ l2 t4 t6 _ (Kd.C_below HR2.out HB.out) HC2.out A5.out).mono ?_); rintro e W12 ⟨rfl, hd⟩; have hb := hd.below; clear hd; refine ⟨_, rfl, ?_⟩; replace BK1 := Aside0.mk (blk_below (g := gb1) (o := .cells #[.slice A0_0 l0_0.length c0_0, .int .i64 a0_1] 24 (0, 0)) BK1.out hb); replace BK2 := Aside0.mk (blk_below (g := gb2) (o := .cells #[.slice A1_0 l1_0.length c1_0, .bool a1_1] 42 (0, 0)) BK2.out hb); replace HB := Aside0.mk (below_step HB.out hb); replace HT := Aside0.mk (Nat.le_trans HT.out hb.size); clear hb))
    go_ret
    exact ⟨by first | rfl | (simp; done) | (simp [*]; done), HB.out⟩
  rw [if_neg c96] at H
  have c96b0 : decide (t6 < 0) = false := decide_eq_false c96
  clear c96
  obtain ⟨⟨t8, t9⟩, A7_, H⟩ := Option.bind_eq_some_iff.mp H
  have A7 := Aside0.mk A7_
  clear A7_
  (try dsimp only at A7 H)
  obtain ⟨⟨t12, t13⟩, A11_, H⟩ := Option.bind_eq_some_iff.mp H
  have A11 := Aside0.mk A11_
  clear A11_
  (try dsimp only at A11 H)
  obtain ⟨t16, A15_, H⟩ := Option.bind_eq_some_iff.mp H
  have A15 := Aside0.mk A15_
  clear A15_
  (try dsimp only at A15 H)
  obtain ⟨⟨t19, t20, t21⟩, A18_, H⟩ := Option.bind_eq_some_iff.mp H
  have A18 := Aside0.mk A18_
  clear A18_
  (try dsimp only at A18 H)
  obtain ⟨⟨t24, t25⟩, A23_, H⟩ := Option.bind_eq_some_iff.mp H
  have A23 := Aside0.mk A23_
  clear A23_
  (try dsimp only at A23 H)
  obtain ⟨⟨t28, t29⟩, A27_, H⟩ := Option.bind_eq_some_iff.mp H
  have A27 := Aside0.mk A27_
  clear A27_
  (try dsimp only at A27 H)
  obtain ⟨t32, A31_, H⟩ := Option.bind_eq_some_iff.mp H
  have A31 := Aside0.mk A31_
  clear A31_
  (try dsimp only at A31 H)
  obtain ⟨⟨t35, t36, t37⟩, A34_, H⟩ := Option.bind_eq_some_iff.mp H
  have A34 := Aside0.mk A34_
  clear A34_
  (try dsimp only at A34 H)
  obtain ⟨t40, A39_, H⟩ := Option.bind_eq_some_iff.mp H
  have A39 := Aside0.mk A39_
  clear A39_
  (try dsimp only at A39 H)
  rcases t40 with _ | _
  · rw [if_neg (by decide)] at H; cases H
  rw [if_pos rfl] at H
  by_cases c97 : (t37 != t21) = true
  · rw [if_pos c97] at H; cases H
  rw [if_neg c97] at H
  have c97b0 : (t37 != t21) = false := by simpa using c97
  have c97b1 : decide (t37 = t21) = true := by simpa using c97
  have c97b2 : (t37 == t21) = true := by simpa using c97
  clear c97
  obtain ⟨⟨t42, t43⟩, A41_, H⟩ := Option.bind_eq_some_iff.mp H
  have A41 := Aside0.mk A41_
  clear A41_
  (try dsimp only at A41 H)
  obtain ⟨t46, A45_, H⟩ := Option.bind_eq_some_iff.mp H
  have A45 := Aside0.mk A45_
  clear A45_
  (try dsimp only at A45 H)
  rcases t46 with _ | _
  · rw [if_neg (by decide)] at H; cases H
  rw [if_pos rfl] at H
  obtain ⟨⟨t48, t49⟩, A47_, H⟩ := Option.bind_eq_some_iff.mp H
  have A47 := Aside0.mk A47_
  clear A47_
  (try dsimp only at A47 H)
  obtain ⟨t52, A51_, H⟩ := Option.bind_eq_some_iff.mp H
  have A51 := Aside0.mk A51_
  clear A51_
  (try dsimp only at A51 H)
  rcases t52 with _ | _
  · rw [if_neg (by decide)] at H; cases H
  rw [if_pos rfl] at H
  obtain ⟨t54, A53_, H⟩ := Option.bind_eq_some_iff.mp H
  have A53 := Aside0.mk A53_
  clear A53_
  (try dsimp only at A53 H)
  obtain ⟨t57, A56_, H⟩ := Option.bind_eq_some_iff.mp H
  have A56 := Aside0.mk A56_
  clear A56_
  (try dsimp only at A56 H)
  rcases t57 with _ | _
  · rw [if_neg (by decide)] at H; cases H
  rw [if_pos rfl] at H
  obtain ⟨⟨t59, t60⟩, A58_, H⟩ := Option.bind_eq_some_iff.mp H
  have A58 := Aside0.mk A58_
  clear A58_
  (try dsimp only at A58 H)
  obtain ⟨⟨t62, t63⟩, A61_, H⟩ := Option.bind_eq_some_iff.mp H
  have A61 := Aside0.mk A61_
  clear A61_
  (try dsimp only at A61 H)
  obtain ⟨⟨t65, t66⟩, A64_, H⟩ := Option.bind_eq_some_iff.mp H
  have A64 := Aside0.mk A64_
  clear A64_
  (try dsimp only at A64 H)
  obtain ⟨t68, A67_, H⟩ := Option.bind_eq_some_iff.mp H
  have A67 := Aside0.mk A67_
  clear A67_
  (try dsimp only at A67 H)
  by_cases c98 : t65 < 0
  · rw [if_pos c98] at H; cases H
  rw [if_neg c98] at H
  have c98b0 : decide (t65 < 0) = false := decide_eq_false c98
  clear c98
  rcases t68 with _ | _
  · rw [if_neg (by decide)] at H; cases H
  rw [if_pos rfl] at H
  by_cases c99 : (t37 != t21) = true
  · rw [if_pos c99] at H; cases H
  rw [if_neg c99] at H
  have c99b0 : (t37 != t21) = false := by simpa using c99
  have c99b1 : decide (t37 = t21) = true := by simpa using c99
  have c99b2 : (t37 == t21) = true := by simpa using c99
  clear c99
  obtain ⟨⟨t70, t71⟩, A69_, H⟩ := Option.bind_eq_some_iff.mp H
  have A69 := Aside0.mk A69_
  clear A69_
  (try dsimp only at A69 H)
  obtain ⟨t73, A72_, H⟩ := Option.bind_eq_some_iff.mp H
  have A72 := Aside0.mk A72_
  clear A72_
  (try dsimp only at A72 H)
  by_cases c100 : t73 < 0
  · rw [if_pos c100] at H; cases H
  rw [if_neg c100] at H
  have c100b0 : decide (t73 < 0) = false := decide_eq_false c100
  clear c100
  by_cases c101 : t73 = t70
  rotate_left
  · rw [if_neg c101] at H; cases H
  rw [if_pos c101] at H
  have c101b0 : (t73 == t70) = true := beq_iff_eq.mpr c101
  have c101b1 : (t73 != t70) = false := bne_eq_false_iff_eq.mpr c101
  clear c101
  obtain ⟨⟨t75, t76⟩, A74_, H⟩ := Option.bind_eq_some_iff.mp H
  have A74 := Aside0.mk A74_
  clear A74_
  (try dsimp only at A74 H)
  obtain ⟨⟨t79, t80⟩, A78_, H⟩ := Option.bind_eq_some_iff.mp H
  have A78 := Aside0.mk A78_
  clear A78_
  (try dsimp only at A78 H)
  obtain ⟨t83, A82_, H⟩ := Option.bind_eq_some_iff.mp H
  have A82 := Aside0.mk A82_
  clear A82_
  (try dsimp only at A82 H)
  obtain ⟨⟨t86, t87, t88⟩, A85_, H⟩ := Option.bind_eq_some_iff.mp H
  have A85 := Aside0.mk A85_
  clear A85_
  (try dsimp only at A85 H)
  obtain ⟨t91, A90_, H⟩ := Option.bind_eq_some_iff.mp H
  have A90 := Aside0.mk A90_
  clear A90_
  (try dsimp only at A90 H)
  rcases t91 with _ | _
  · rw [if_neg (by decide)] at H; cases H
  rw [if_pos rfl] at H
  by_cases c102 : (t88 != t21) = true
  · rw [if_pos c102] at H; cases H
  rw [if_neg c102] at H
  have c102b0 : (t88 != t21) = false := by simpa using c102
  have c102b1 : decide (t88 = t21) = true := by simpa using c102
  have c102b2 : (t88 == t21) = true := by simpa using c102
  clear c102
  obtain ⟨t93, A92_, H⟩ := Option.bind_eq_some_iff.mp H
  have A92 := Aside0.mk A92_
  clear A92_
  (try dsimp only at A92 H)
  by_cases c103 : t93 < 0
  · rw [if_pos c103] at H; cases H
  rw [if_neg c103] at H
  have c103b0 : decide (t93 < 0) = false := decide_eq_false c103
  clear c103
  by_cases c104 : t93 = t70
  rotate_left
  · rw [if_neg c104] at H; cases H
  rw [if_pos c104] at H
  have c104b0 : (t93 == t70) = true := beq_iff_eq.mpr c104
  have c104b1 : (t93 != t70) = false := bne_eq_false_iff_eq.mpr c104
  clear c104
  obtain rfl := Option.some.inj H
  clear H
  go_enter Try.func13, Try.ntmps13
  try go_wp2_with (first | ((with_reducible refine gate_dst (N := 3) rfl ?_); refine box_event ?hg (N := 3) ?hd (cs := #[.slice A0_0 l0_0.length c0_0, .int .i64 a0_1]) (t := 24) ?hr ?_; (case hd => rfl); (case hg => rfl); (case hr => first | (go_simp; done) | (go_simp; rfl)); intro gb1 hg W13 hbox hb; have nn : w.heap.size ≤ gb1 := Nat.le_trans HT.out (Nat.le_of_eq hg.symm); have GE1 := Aside0.mk (Nat.le_trans (below_size HB.out) (Nat.le_of_eq hg.symm)); replace HB := Aside0.mk (below_step HB.out hb); replace HT := Aside0.mk (Nat.le_trans HT.out hb.size); have BK1 := Aside0.mk hbox; replace HT := Aside0.mk (Nat.succ_le_of_lt (blk_lt hbox)); replace HN := Aside0.mk (And.intro nn HN.out); clear hg hbox hb nn) | ((with_reducible refine gate_dst (N := 4) rfl ?_); refine box_event ?hg (N := 4) ?hd (cs := #[.slice A1_0 l1_0.length c1_0, .bool a1_1]) (t := 42) ?hr ?_; (case hd => rfl); (case hg => rfl); (case hr => first | (go_simp; done) | (go_simp; rfl)); intro gb2 hg W14 hbox hb; have nn : gb1.succ ≤ gb2 := Nat.le_trans HT.out (Nat.le_of_eq hg.symm); have GE2 := Aside0.mk (Nat.le_trans (below_size HB.out) (Nat.le_of_eq hg.symm)); replace BK1 := Aside0.mk (blk_below (g := gb1) (o := .cells #[.slice A0_0 l0_0.length c0_0, .int .i64 a0_1] 24 (0, 0)) BK1.out hb); replace HB := Aside0.mk (below_step HB.out hb); replace HT := Aside0.mk (Nat.le_trans HT.out hb.size); have BK2 := Aside0.mk hbox; replace HT := Aside0.mk (Nat.succ_le_of_lt (blk_lt hbox)); replace HN := Aside0.mk (And.intro nn HN.out); clear hg hbox hb nn; have cz1_0 : W14.cell? ⟨gb1, 0, none⟩ = some (.slice A0_0 l0_0.length c0_0) := (blk_cell BK1.out 0).trans rfl; have cz1_1 : W14.cell? ⟨gb1, 1, none⟩ = some (.int .i64 a0_1) := (blk_cell BK1.out 1).trans rfl) | ((with_reducible refine gate_dst (N := 22) rfl ?_); refine goesL_ (some 22) rfl rfl Try.func15 (by kernel_rfl) rfl #[.agg #[.slice A0_0 l0_0.length c0_0, .int .i64 a0_1], .int .i64 1048576] rfl (by (try simp only [List.map_toArray, List.map_cons, List.map_nil]); first | done | rfl) ?_; (with_reducible refine (laws_szParty.calls _ _ l0_0 a0_1 1048576 t2 _ (Kd.C_below HR0_0.out HB.out) HC0_0.out A1.out).mono ?_); rintro e W15 ⟨rfl, hb⟩; refine ⟨_, rfl, ?_⟩; replace BK1 := Aside0.mk (blk_below (g := gb1) (o := .cells #[.slice A0_0 l0_0.length c0_0, .int .i64 a0_1] 24 (0, 0)) BK1.out hb); replace BK2 := Aside0.mk (blk_below (g := gb2) (o := .cells #[.slice A1_0 l1_0.length c1_0, .bool a1_1] 42 (0, 0)) BK2.out hb); replace HB := Aside0.mk (below_step HB.out hb); replace HT := Aside0.mk (Nat.le_trans HT.out hb.size); clear hb; (try clear cz1_0 cz1_1); have cz2_0 : W15.cell? ⟨gb2, 0, none⟩ = some (.slice A1_0 l1_0.length c1_0) := (blk_cell BK2.out 0).trans rfl; have cz2_1 : W15.cell? ⟨gb2, 1, none⟩ = some (.bool a1_1) := (blk_cell BK2.out 1).trans rfl) | ((with_reducible refine gate_dst (N := 27) rfl ?_); refine goesL_ (some 27) rfl rfl Try.func30 (by kernel_rfl) rfl #[.agg #[.slice A1_0 l1_0.length c1_0, .bool a1_1], .int .i64 t2] rfl (by (try simp only [List.map_toArray, List.map_cons, List.map_nil]); first | done | rfl) ?_; (with_reducible refine (laws_szState.calls _ _ l1_0 a1_1 t2 t4 _ (Kd.C_below HR1_0.out HB.out) HC1_0.out A3.out).mono ?_); rintro e W16 ⟨rfl, hb⟩; refine ⟨_, rfl, ?_⟩; replace BK1 := Aside0.mk (blk_below (g := gb1) (o := .cells #[.slice A0_0 l0_0.length c0_0, .int .i64 a0_1] 24 (0, 0)) BK1.out hb); replace BK2 := Aside0.mk (blk_below (g := gb2) (o := .cells #[.slice A1_0 l1_0.length c1_0, .bool a1_1] 42 (0, 0)) BK2.out hb); replace HB := Aside0.mk (below_step HB.out hb); replace HT := Aside0.mk (Nat.le_trans HT.out hb.size); clear hb; (try clear cz2_0 cz2_1)) | ((with_reducible refine gate_dst (N := 32) rfl ?_); refine goesL_ (some 32) rfl rfl Try.func46 (by kernel_rfl) rfl #[.slice A2 l2.length c2, .int .i64 t4] rfl (by (try simp only [List.map_toArray, List.map_cons, List.map_nil]); first | done | rfl) ?_; (with_reducible refine (laws_szIntSS.calls k _ _ l2 t4 t6 _ (Kd.C_below HR2.out HB.out) HC2.out A5.out).mono ?_); rintro e W17 ⟨rfl, hd⟩; have hb := hd.below; clear hd; refine ⟨_, rfl, ?_⟩; replace BK1 := Aside0.mk (blk_below (g := gb1) (o := .cells #[.slice A0_0 l0_0.length c0_0, .int .i64 a0_1] 24 (0, 0)) BK1.out hb); replace BK2 := Aside0.mk (blk_below (g := gb2) (o := .cells #[.slice A1_0 l1_0.length c1_0, .bool a1_1] 42 (0, 0)) BK2.out hb); replace HB := Aside0.mk (below_step HB.out hb); replace HT := Aside0.mk (Nat.le_trans HT.out hb.size); clear hb))
  have hb : Below W17.heap.size W17 W17.drew := below_drew (Below.refl _ _)
  replace BK1 := Aside0.mk (blk_below (g := gb1) (o := .cells #[.slice A0_0 l0_0.length c0_0, .int .i64 a0_1] 24 (0, 0)) BK1.out hb)
  replace BK2 := Aside0.mk (blk_below (g := gb2) (o := .cells #[.slice A1_0 l1_0.length c1_0, .bool a1_1] 42 (0, 0)) BK2.out hb)
  replace HB := Aside0.mk (below_step HB.out hb)
  replace HT := Aside0.mk (Nat.le_trans HT.out hb.size)
  clear hb
  refine start_ (n := 13) (S := fun w' => w'.cell? ⟨gb1, 0, none⟩ = some (.slice A0_0 l0_0.length c0_0) ∧ w'.cell? ⟨gb1, 1, none⟩ = some (.int .i64 a0_1) ∧ w'.cell? ⟨gb2, 0, none⟩ = some (.slice A1_0 l1_0.length c1_0) ∧ w'.cell? ⟨gb2, 1, none⟩ = some (.bool a1_1)) (ds := []) #[false, false, false, false, false, false, false, false, false, false, false, false, false] (by kernel_rfl) rfl rfl ⟨(blk_cell BK1.out 0).trans rfl, (blk_cell BK1.out 1).trans rfl, (blk_cell BK2.out 0).trans rfl, (blk_cell BK2.out 1).trans rfl⟩ (fun hHeld => ?_)
  generalize W17.drew = W18 at BK1 BK2 HB HT hHeld ⊢
  refine take_ (i := 0) (N := some 36) (v := ?_) (a' := ?_) #[true, false, false, false, false, false, false, false, false, false, false, false, false] rfl rfl (by kernel_rfl) (fun _ _ _ h => h) (Or.inl ⟨by rfl, ?_⟩) hHeld ?_ ?_
  rotate_left
  · rintro w' ⟨s0, s1, s2, s3⟩
    go_simp
    with_reducible rfl
  rotate_left
  · simp only [Act.put, List.setIfInBounds_toArray, List.set_cons_zero, List.set_cons_succ, i64_w, i32_w]
    rfl
  refine take_ (i := 2) (N := some 38) (v := ?_) (a' := ?_) #[true, false, true, false, false, false, false, false, false, false, false, false, false] rfl rfl (by kernel_rfl) (fun _ _ _ h => h) (Or.inl ⟨by rfl, ?_⟩) hHeld ?_ ?_
  rotate_left
  · rintro w' ⟨s0, s1, s2, s3⟩
    go_simp
    with_reducible rfl
  rotate_left
  · simp only [Act.put, List.setIfInBounds_toArray, List.set_cons_zero, List.set_cons_succ, i64_w, i32_w]
    rfl
  refine pure_ (i := 4) (N := some 40) (v := ?_) (a' := ?_) #[true, false, true, false, true, false, false, false, false, false, false, false, false] rfl rfl (by kernel_rfl) (fun _ _ _ h => h) (Or.inl ⟨by rfl, ?_⟩) ?_ ?_
  rotate_left
  · intro w'
    go_simp
    with_reducible rfl
  rotate_left
  · simp only [Act.put, List.setIfInBounds_toArray, List.set_cons_zero, List.set_cons_succ, i64_w, i32_w]
    rfl
  refine join_ (σ := Option Addr × Nat × Option Addr × Nat × Option Addr × Nat × Option Addr × Nat × Nat) 2 #[true, true, true, true, true, true, true, true, true, true, true, false, false] (fun s => [(37, .agg #[.slice s.1 t8.length s.2.1, .int .i64 t9]), (39, .agg #[.slice s.2.2.1 t12.length s.2.2.2.1, .bool t13]), (41, .slice s.2.2.2.2.1 t16.length s.2.2.2.2.2.1), (42, .tuple #[.agg #[.slice s.2.2.2.2.2.2.1 t19.length s.2.2.2.2.2.2.2.1, .bool t20], .bool t21]), (35, .tuple #[.agg #[.slice s.2.2.2.2.2.2.1 t19.length s.2.2.2.2.2.2.2.1, .bool t20], .bool t21]), (43, .agg #[.slice s.2.2.2.2.2.2.1 t19.length s.2.2.2.2.2.2.2.1, .bool t20]), (44, .bool t21), (8, .pointer (some ⟨s.2.2.2.2.2.2.2.2, 0, none⟩))]) (fun s w' => ∃ lo22 hi22 T_ : Nat, Aside0 (Kd.R Kd.bool 4 w' w.heap.size (fun k_ => lo22 ≤ k_ ∧ k_ < hi22) (.slice s.2.2.2.2.2.2.1 t19.length s.2.2.2.2.2.2.2.1) t19) ∧ Aside0 (w'.heap[gb1]? = some (.cells #[.slice A0_0 l0_0.length c0_0, .int .i64 a0_1] 24 (0, 0))) ∧ Aside0 (w'.heap[gb2]? = some (.cells #[.slice A1_0 l1_0.length c1_0, .bool a1_1] 42 (0, 0))) ∧ Aside0 (w'.heap[s.2.2.2.2.2.2.2.2]? = some (.cells #[.slice none 0 0, .bool false] 46 (0, 0))) ∧ Aside0 (Below w.heap.size w w') ∧ Aside0 (T_ ≤ w'.heap.size) ∧ Aside0 (w.heap.size ≤ s.2.2.2.2.2.2.2.2) ∧ Aside0 (gb2.succ ≤ s.2.2.2.2.2.2.2.2 ∧ s.2.2.2.2.2.2.2.2 < T_ ∧ gb2.succ ≤ lo22 ∧ lo22 ≤ hi22 ∧ hi22 ≤ T_ ∧ (s.2.2.2.2.2.2.2.2 < lo22 ∨ hi22 ≤ s.2.2.2.2.2.2.2.2))) ?_ ?_
  rotate_left
  · intro hJ4
    refine join_ (σ := Option Addr × Nat × Option Addr × Nat × Option Addr × Nat × Nat) 6 #[true, true, true, true, true, true, false, false, false, false, true, false, false] (fun s => [(37, .agg #[.slice s.1 t8.length s.2.1, .int .i64 t9]), (39, .agg #[.slice s.2.2.1 t12.length s.2.2.2.1, .bool t13]), (41, .slice s.2.2.2.2.1 t16.length s.2.2.2.2.2.1), (8, .pointer (some ⟨s.2.2.2.2.2.2, 0, none⟩))]) (fun s w' => ∃ lo10 hi10 lo14 hi14 lo17 hi17 T_ : Nat, Aside0 (Kd.R (Kd.int .i64) 3 w' w.heap.size (fun k_ => lo10 ≤ k_ ∧ k_ < hi10) (.slice s.1 t8.length s.2.1) t8) ∧ Aside0 (Kd.R Kd.bool 4 w' w.heap.size (fun k_ => lo14 ≤ k_ ∧ k_ < hi14) (.slice s.2.2.1 t12.length s.2.2.2.1) t12) ∧ Aside0 (Kd.S (Kd.slice 3 (Kd.int .i64)) 22 w' w.heap.size (fun k_ => lo17 ≤ k_ ∧ k_ < hi17) (.slice s.2.2.2.2.1 t16.length s.2.2.2.2.2.1) t16) ∧ Aside0 (w'.heap[gb1]? = some (.cells #[.slice A0_0 l0_0.length c0_0, .int .i64 a0_1] 24 (0, 0))) ∧ Aside0 (w'.heap[gb2]? = some (.cells #[.slice A1_0 l1_0.length c1_0, .bool a1_1] 42 (0, 0))) ∧ Aside0 (w'.heap[s.2.2.2.2.2.2]? = some (.cells #[.slice none 0 0, .bool false] 46 (0, 0))) ∧ Aside0 (Below w.heap.size w w') ∧ Aside0 (T_ ≤ w'.heap.size) ∧ Aside0 (w.heap.size ≤ s.2.2.2.2.2.2) ∧ Aside0 (gb2.succ ≤ s.2.2.2.2.2.2 ∧ s.2.2.2.2.2.2 < T_ ∧ gb2.succ ≤ lo10 ∧ lo10 ≤ hi10 ∧ hi10 ≤ T_ ∧ (s.2.2.2.2.2.2 < lo10 ∨ hi10 ≤ s.2.2.2.2.2.2) ∧ gb2.succ ≤ lo14 ∧ lo14 ≤ hi14 ∧ hi14 ≤ T_ ∧ (s.2.2.2.2.2.2 < lo14 ∨ hi14 ≤ s.2.2.2.2.2.2) ∧ gb2.succ ≤ lo17 ∧ lo17 ≤ hi17 ∧ hi17 ≤ T_ ∧ (s.2.2.2.2.2.2 < lo17 ∨ hi17 ≤ s.2.2.2.2.2.2) ∧ hi10 ≤ lo14 ∧ hi10 ≤ lo17 ∧ hi14 ≤ lo17)) ?_ ?_
    rotate_left
    · intro hJ3
      refine join_ (σ := Option Addr × Nat × Option Addr × Nat × Nat) 7 #[true, true, true, true, true, false, false, false, false, false, true, false, false] (fun s => [(37, .agg #[.slice s.1 t8.length s.2.1, .int .i64 t9]), (39, .agg #[.slice s.2.2.1 t12.length s.2.2.2.1, .bool t13]), (8, .pointer (some ⟨s.2.2.2.2, 0, none⟩))]) (fun s w' => ∃ lo10 hi10 lo14 hi14 T_ : Nat, Aside0 (Kd.R (Kd.int .i64) 3 w' w.heap.size (fun k_ => lo10 ≤ k_ ∧ k_ < hi10) (.slice s.1 t8.length s.2.1) t8) ∧ Aside0 (Kd.R Kd.bool 4 w' w.heap.size (fun k_ => lo14 ≤ k_ ∧ k_ < hi14) (.slice s.2.2.1 t12.length s.2.2.2.1) t12) ∧ Aside0 (w'.heap[gb1]? = some (.cells #[.slice A0_0 l0_0.length c0_0, .int .i64 a0_1] 24 (0, 0))) ∧ Aside0 (w'.heap[gb2]? = some (.cells #[.slice A1_0 l1_0.length c1_0, .bool a1_1] 42 (0, 0))) ∧ Aside0 (w'.heap[s.2.2.2.2]? = some (.cells #[.slice none 0 0, .bool false] 46 (0, 0))) ∧ Aside0 (Below w.heap.size w w') ∧ Aside0 (T_ ≤ w'.heap.size) ∧ Aside0 (w.heap.size ≤ s.2.2.2.2) ∧ Aside0 (gb2.succ ≤ s.2.2.2.2 ∧ s.2.2.2.2 < T_ ∧ gb2.succ ≤ lo10 ∧ lo10 ≤ hi10 ∧ hi10 ≤ T_ ∧ (s.2.2.2.2 < lo10 ∨ hi10 ≤ s.2.2.2.2) ∧ gb2.succ ≤ lo14 ∧ lo14 ≤ hi14 ∧ hi14 ≤ T_ ∧ (s.2.2.2.2 < lo14 ∨ hi14 ≤ s.2.2.2.2) ∧ hi10 ≤ lo14)) ?_ ?_
      rotate_left
      · intro hJ2
        refine join_ (σ := Option Addr × Nat × Nat) 8 #[true, true, true, false, true, false, false, false, false, false, true, false, false] (fun s => [(37, .agg #[.slice s.1 t8.length s.2.1, .int .i64 t9]), (8, .pointer (some ⟨s.2.2, 0, none⟩))]) (fun s w' => ∃ lo10 hi10 T_ : Nat, Aside0 (Kd.R (Kd.int .i64) 3 w' w.heap.size (fun k_ => lo10 ≤ k_ ∧ k_ < hi10) (.slice s.1 t8.length s.2.1) t8) ∧ Aside0 (w'.heap[gb1]? = some (.cells #[.slice A0_0 l0_0.length c0_0, .int .i64 a0_1] 24 (0, 0))) ∧ Aside0 (w'.heap[gb2]? = some (.cells #[.slice A1_0 l1_0.length c1_0, .bool a1_1] 42 (0, 0))) ∧ Aside0 (w'.heap[s.2.2]? = some (.cells #[.slice none 0 0, .bool false] 46 (0, 0))) ∧ Aside0 (Below w.heap.size w w') ∧ Aside0 (T_ ≤ w'.heap.size) ∧ Aside0 (w.heap.size ≤ s.2.2) ∧ Aside0 (gb2.succ ≤ s.2.2 ∧ s.2.2 < T_ ∧ gb2.succ ≤ lo10 ∧ lo10 ≤ hi10 ∧ hi10 ≤ T_ ∧ (s.2.2 < lo10 ∨ hi10 ≤ s.2.2))) ?_ ?_
        rotate_left
        · intro hJ1
          refine join_ (σ := Nat) 9 #[true, false, true, false, true, false, false, false, false, false, true, false, false] (fun s => [(8, .pointer (some ⟨s, 0, none⟩))]) (fun s w' => ∃ T_ : Nat, Aside0 (w'.heap[gb1]? = some (.cells #[.slice A0_0 l0_0.length c0_0, .int .i64 a0_1] 24 (0, 0))) ∧ Aside0 (w'.heap[gb2]? = some (.cells #[.slice A1_0 l1_0.length c1_0, .bool a1_1] 42 (0, 0))) ∧ Aside0 (w'.heap[s]? = some (.cells #[.slice none 0 0, .bool false] 46 (0, 0))) ∧ Aside0 (Below w.heap.size w w') ∧ Aside0 (T_ ≤ w'.heap.size) ∧ Aside0 (w.heap.size ≤ s) ∧ Aside0 (gb2.succ ≤ s ∧ s < T_)) ?_ ?_
          rotate_left
          · intro hJ0
            refine two_ (i := 1) (j := 10) (Ni := some 37) (Nj := some 8) #[true, true, true, false, true, false, false, false, false, false, false, false, false] #[true, false, true, false, true, false, false, false, false, false, true, false, false] rfl rfl rfl rfl (by kernel_rfl) (by decide) (by decide) (fun K hK => ?_) (fun K hK => ?_)
            · skip
              refine goes_ Try.func17 (by kernel_rfl) rfl #[.agg #[.slice A0_0 l0_0.length c0_0, .int .i64 a0_1]] (by rfl) rfl rfl (by (try simp only [List.map_toArray, List.map_cons, List.map_nil]); first | done | rfl) ?_
              with_reducible refine (laws_toParty.calls k _ _ l0_0 a0_1 t8 t9 _ (Kd.C_below HR0_0.out HB.out) HC0_0.out A7.out).mono ?_
              rintro e W19 ⟨v10, rfl, ho10, hb⟩
              refine ⟨_, rfl, ?_⟩
              obtain ⟨B10, d10, e_⟩ := Kd.R_slice ho10
              subst e_
              obtain ⟨lo10, hi10, nn, ht_, hO10⟩ := laws_FnExactPlayTrips.newR ho10 HT.out (below_size HB.out) hb.size
              replace BK1 := Aside0.mk (blk_below (g := gb1) (o := .cells #[.slice A0_0 l0_0.length c0_0, .int .i64 a0_1] 24 (0, 0)) BK1.out hb)
              replace BK2 := Aside0.mk (blk_below (g := gb2) (o := .cells #[.slice A1_0 l1_0.length c1_0, .bool a1_1] 42 (0, 0)) BK2.out hb)
              replace HB := Aside0.mk (below_step HB.out hb)
              replace HT := Aside0.mk (Nat.le_trans HT.out hb.size)
              have HO10 := Aside0.mk hO10
              replace HT := Aside0.mk ht_
              replace HN := Aside0.mk (And.intro nn HN.out)
              clear ho10 hO10 nn ht_
              clear hb
              refine hK.out _ _ ⟨(blk_cell BK1.out 0).trans rfl, (blk_cell BK1.out 1).trans rfl, (blk_cell BK2.out 0).trans rfl, (blk_cell BK2.out 1).trans rfl⟩ (fun hHeld => ?_)
              clear hK K
              refine norm_ (a' := ?_) ?_ ?_
              rotate_left
              · show Act.put _ (some 37) _ = _
                simp only [Act.put, List.setIfInBounds_toArray, List.set_cons_zero, List.set_cons_succ, i64_w, i32_w]
                rfl
              refine two_ (i := 3) (j := 10) (Ni := some 39) (Nj := some 8) #[true, true, true, true, true, false, false, false, false, false, false, false, false] #[true, true, true, false, true, false, false, false, false, false, true, false, false] rfl rfl rfl rfl (by kernel_rfl) (by decide) (by decide) (fun K hK => ?_) (fun K hK => ?_)
              · skip
                refine goes_ Try.func32 (by kernel_rfl) rfl #[.agg #[.slice A1_0 l1_0.length c1_0, .bool a1_1]] (by rfl) rfl rfl (by (try simp only [List.map_toArray, List.map_cons, List.map_nil]); first | done | rfl) ?_
                with_reducible refine (laws_toState.calls k _ _ l1_0 a1_1 t12 t13 _ (Kd.C_below HR1_0.out HB.out) HC1_0.out A11.out).mono ?_
                rintro e W20 ⟨v14, rfl, ho14, hb⟩
                refine ⟨_, rfl, ?_⟩
                obtain ⟨B14, d14, e_⟩ := Kd.R_slice ho14
                subst e_
                obtain ⟨lo14, hi14, nn, ht_, hO14⟩ := laws_FnExactPlayTrips.newR ho14 HT.out (below_size HB.out) hb.size
                replace HO10 := Aside0.mk (Kd.R_below HO10.out hb)
                replace BK1 := Aside0.mk (blk_below (g := gb1) (o := .cells #[.slice A0_0 l0_0.length c0_0, .int .i64 a0_1] 24 (0, 0)) BK1.out hb)
                replace BK2 := Aside0.mk (blk_below (g := gb2) (o := .cells #[.slice A1_0 l1_0.length c1_0, .bool a1_1] 42 (0, 0)) BK2.out hb)
                replace HB := Aside0.mk (below_step HB.out hb)
                replace HT := Aside0.mk (Nat.le_trans HT.out hb.size)
                have HO14 := Aside0.mk hO14
                replace HT := Aside0.mk ht_
                replace HN := Aside0.mk (And.intro nn HN.out)
                clear ho14 hO14 nn ht_
                clear hb
                refine hK.out _ _ ⟨(blk_cell BK1.out 0).trans rfl, (blk_cell BK1.out 1).trans rfl, (blk_cell BK2.out 0).trans rfl, (blk_cell BK2.out 1).trans rfl⟩ (fun hHeld => ?_)
                clear hK K
                refine norm_ (a' := ?_) ?_ ?_
                rotate_left
                · show Act.put _ (some 39) _ = _
                  simp only [Act.put, List.setIfInBounds_toArray, List.set_cons_zero, List.set_cons_succ, i64_w, i32_w]
                  rfl
                refine two_ (i := 5) (j := 10) (Ni := some 41) (Nj := some 8) #[true, true, true, true, true, true, false, false, false, false, false, false, false] #[true, true, true, true, true, false, false, false, false, false, true, false, false] rfl rfl rfl rfl (by kernel_rfl) (by decide) (by decide) (fun K hK => ?_) (fun K hK => ?_)
                · skip
                  refine goes_ Try.func48 (by kernel_rfl) rfl #[.slice A2 l2.length c2] (by rfl) rfl rfl (by (try simp only [List.map_toArray, List.map_cons, List.map_nil]); first | done | rfl) ?_
                  with_reducible refine (laws_toIntSS.calls k _ _ l2 t16 _ (Kd.C_below HR2.out HB.out) HC2.out A15.out).mono ?_
                  rintro e W21 ⟨v17, rfl, ho17, hb⟩
                  refine ⟨_, rfl, ?_⟩
                  obtain ⟨B17, d17, e_⟩ := Kd.S_slice ho17
                  subst e_
                  obtain ⟨lo17, hi17, nn, ht_, hO17⟩ := laws_FnExactPlayTrips.newS ho17 HT.out (below_size HB.out) hb.size
                  replace HO10 := Aside0.mk (Kd.R_below HO10.out hb)
                  replace HO14 := Aside0.mk (Kd.R_below HO14.out hb)
                  replace BK1 := Aside0.mk (blk_below (g := gb1) (o := .cells #[.slice A0_0 l0_0.length c0_0, .int .i64 a0_1] 24 (0, 0)) BK1.out hb)
                  replace BK2 := Aside0.mk (blk_below (g := gb2) (o := .cells #[.slice A1_0 l1_0.length c1_0, .bool a1_1] 42 (0, 0)) BK2.out hb)
                  replace HB := Aside0.mk (below_step HB.out hb)
                  replace HT := Aside0.mk (Nat.le_trans HT.out hb.size)
                  have HO17 := Aside0.mk hO17
                  replace HT := Aside0.mk ht_
                  replace HN := Aside0.mk (And.intro nn HN.out)
                  clear ho17 hO17 nn ht_
                  clear hb
                  refine hK.out _ _ ⟨(blk_cell BK1.out 0).trans rfl, (blk_cell BK1.out 1).trans rfl, (blk_cell BK2.out 0).trans rfl, (blk_cell BK2.out 1).trans rfl⟩ (fun hHeld => ?_)
                  clear hK K
                  refine norm_ (a' := ?_) ?_ ?_
                  rotate_left
                  · show Act.put _ (some 41) _ = _
                    simp only [Act.put, List.setIfInBounds_toArray, List.set_cons_zero, List.set_cons_succ, i64_w, i32_w]
                    rfl
                  refine two_ (i := 6) (j := 10) (Ni := some 42) (Nj := some 8) #[true, true, true, true, true, true, true, false, false, false, false, false, false] #[true, true, true, true, true, true, false, false, false, false, true, false, false] rfl rfl rfl rfl (by kernel_rfl) (by decide) (by decide) (fun K hK => ?_) (fun K hK => ?_)
                  · skip
                    refine goes_ Try.func51 (by kernel_rfl) rfl #[.agg #[.slice B10 t8.length d10, .int .i64 t9], .agg #[.slice B14 t12.length d14, .bool t13], .slice B17 t16.length d17] (by rfl) rfl rfl (by (try simp only [List.map_toArray, List.map_cons, List.map_nil]); first | done | rfl) ?_
                    with_reducible refine (spec_PlayTrips.calls k _ _ t8 t9 _ _ t12 t13 _ _ t16 t19 t20 t21 _ (Kd.R_reads' HO10.out).2.2 (Kd.R_reads' HO10.out).2.1 (Kd.R_reads' HO14.out).2.2 (Kd.R_reads' HO14.out).2.1 (Kd.R_reads' (Kd.S_R HO17.out)).2.2 (Kd.R_reads' (Kd.S_R HO17.out)).2.1 A18.out).mono ?_
                    rintro e W22 ⟨v22, rfl, ho22, hb⟩
                    refine ⟨_, rfl, ?_⟩
                    obtain ⟨B22, d22, e_⟩ := Kd.R_slice ho22
                    subst e_
                    obtain ⟨lo22, hi22, nn, ht_, hO22⟩ := laws_FnExactPlayTrips.newR ho22 HT.out (below_size HB.out) hb.size
                    replace HO10 := Aside0.mk (Kd.R_below HO10.out hb)
                    replace HO14 := Aside0.mk (Kd.R_below HO14.out hb)
                    replace HO17 := Aside0.mk (Kd.S_below HO17.out hb)
                    replace BK1 := Aside0.mk (blk_below (g := gb1) (o := .cells #[.slice A0_0 l0_0.length c0_0, .int .i64 a0_1] 24 (0, 0)) BK1.out hb)
                    replace BK2 := Aside0.mk (blk_below (g := gb2) (o := .cells #[.slice A1_0 l1_0.length c1_0, .bool a1_1] 42 (0, 0)) BK2.out hb)
                    replace HB := Aside0.mk (below_step HB.out hb)
                    replace HT := Aside0.mk (Nat.le_trans HT.out hb.size)
                    have HO22 := Aside0.mk hO22
                    replace HT := Aside0.mk ht_
                    replace HN := Aside0.mk (And.intro nn HN.out)
                    clear ho22 hO22 nn ht_
                    clear hb
                    clear HO10 HO14 HO17
                    refine hK.out _ _ ⟨(blk_cell BK1.out 0).trans rfl, (blk_cell BK1.out 1).trans rfl, (blk_cell BK2.out 0).trans rfl, (blk_cell BK2.out 1).trans rfl⟩ (fun hHeld => ?_)
                    clear hK K
                    refine norm_ (a' := ?_) ?_ ?_
                    rotate_left
                    · show Act.put _ (some 42) _ = _
                      simp only [Act.put, List.setIfInBounds_toArray, List.set_cons_zero, List.set_cons_succ, i64_w, i32_w]
                      rfl
                    refine pure_ (i := 7) (N := some 35) (v := ?_) (a' := ?_) #[true, true, true, true, true, true, true, true, false, false, false, false, false] rfl rfl (by kernel_rfl) (fun _ _ _ h => h) (Or.inl ⟨by rfl, ?_⟩) ?_ ?_
                    rotate_left
                    · intro w'
                      go_simp
                      with_reducible rfl
                    rotate_left
                    · simp only [Act.put, List.setIfInBounds_toArray, List.set_cons_zero, List.set_cons_succ, i64_w, i32_w]
                      rfl
                    refine pure_ (i := 8) (N := some 43) (v := ?_) (a' := ?_) #[true, true, true, true, true, true, true, true, true, false, false, false, false] rfl rfl (by kernel_rfl) (fun _ _ _ h => h) (Or.inl ⟨by rfl, ?_⟩) ?_ ?_
                    rotate_left
                    · intro w'
                      go_simp
                      with_reducible rfl
                    rotate_left
                    · simp only [Act.put, List.setIfInBounds_toArray, List.set_cons_zero, List.set_cons_succ, i64_w, i32_w]
                      rfl
                    refine pure_ (i := 9) (N := some 44) (v := ?_) (a' := ?_) #[true, true, true, true, true, true, true, true, true, true, false, false, false] rfl rfl (by kernel_rfl) (fun _ _ _ h => h) (Or.inl ⟨by rfl, ?_⟩) ?_ ?_
                    rotate_left
                    · intro w'
                      go_simp
                      with_reducible rfl
                    rotate_left
                    · simp only [Act.put, List.setIfInBounds_toArray, List.set_cons_zero, List.set_cons_succ, i64_w, i32_w]
                      rfl
                    refine one_ (i := 10) (N := some 8) #[true, true, true, true, true, true, true, true, true, true, true, false, false] rfl rfl (by kernel_rfl) (by decide) (fun K hK => ?_)
                    refine box_step (by rfl) (N := 8) rfl (cs := #[.slice none 0 0, .bool false]) (t := 46) ?hr ?_
                    (case hr => first | (go_simp; done) | (go_simp; rfl))
                    intro gb3 hg W23 hbox hb
                    have nn : hi22 ≤ gb3 := Nat.le_trans HT.out (Nat.le_of_eq hg.symm)
                    have GE3 := Aside0.mk (Nat.le_trans (below_size HB.out) (Nat.le_of_eq hg.symm))
                    replace HO22 := Aside0.mk (Kd.R_below HO22.out hb)
                    replace BK1 := Aside0.mk (blk_below (g := gb1) (o := .cells #[.slice A0_0 l0_0.length c0_0, .int .i64 a0_1] 24 (0, 0)) BK1.out hb)
                    replace BK2 := Aside0.mk (blk_below (g := gb2) (o := .cells #[.slice A1_0 l1_0.length c1_0, .bool a1_1] 42 (0, 0)) BK2.out hb)
                    replace HB := Aside0.mk (below_step HB.out hb)
                    replace HT := Aside0.mk (Nat.le_trans HT.out hb.size)
                    have BK3 := Aside0.mk hbox
                    replace HT := Aside0.mk (Nat.succ_le_of_lt (blk_lt hbox))
                    replace HN := Aside0.mk (And.intro nn HN.out)
                    clear hg hbox hb nn
                    refine hK.out _ _ ⟨(blk_cell BK1.out 0).trans rfl, (blk_cell BK1.out 1).trans rfl, (blk_cell BK2.out 0).trans rfl, (blk_cell BK2.out 1).trans rfl⟩ (fun hHeld => ?_)
                    clear hK K
                    refine norm_ (a' := ?_) ?_ ?_
                    rotate_left
                    · show Act.put _ (some 8) _ = _
                      simp only [Act.put, List.setIfInBounds_toArray, List.set_cons_zero, List.set_cons_succ, i64_w, i32_w]
                      rfl
                    exact norm_ (by first | (simp only [putAll, Act.put, List.setIfInBounds_toArray, List.set_cons_zero, List.set_cons_succ]; done) | (simp only [putAll, Act.put, List.setIfInBounds_toArray, List.set_cons_zero, List.set_cons_succ]; rfl)) (hJ4 (B10, d10, B14, d14, B17, d17, B22, d22, gb3) _ ⟨lo22, hi22, gb3.succ, HO22, BK1, BK2, BK3, HB, HT, GE3, ⟨by have hn_ := HN.out; (try dsimp only); omega⟩⟩)
                  · skip
                    refine box_step (by rfl) (N := 8) rfl (cs := #[.slice none 0 0, .bool false]) (t := 46) ?hr ?_
                    (case hr => first | (go_simp; done) | (go_simp; rfl))
                    intro gb3 hg W24 hbox hb
                    have nn : hi17 ≤ gb3 := Nat.le_trans HT.out (Nat.le_of_eq hg.symm)
                    have GE3 := Aside0.mk (Nat.le_trans (below_size HB.out) (Nat.le_of_eq hg.symm))
                    replace HO10 := Aside0.mk (Kd.R_below HO10.out hb)
                    replace HO14 := Aside0.mk (Kd.R_below HO14.out hb)
                    replace HO17 := Aside0.mk (Kd.S_below HO17.out hb)
                    replace BK1 := Aside0.mk (blk_below (g := gb1) (o := .cells #[.slice A0_0 l0_0.length c0_0, .int .i64 a0_1] 24 (0, 0)) BK1.out hb)
                    replace BK2 := Aside0.mk (blk_below (g := gb2) (o := .cells #[.slice A1_0 l1_0.length c1_0, .bool a1_1] 42 (0, 0)) BK2.out hb)
                    replace HB := Aside0.mk (below_step HB.out hb)
                    replace HT := Aside0.mk (Nat.le_trans HT.out hb.size)
                    have BK3 := Aside0.mk hbox
                    replace HT := Aside0.mk (Nat.succ_le_of_lt (blk_lt hbox))
                    replace HN := Aside0.mk (And.intro nn HN.out)
                    clear hg hbox hb nn
                    refine hK.out _ _ ⟨(blk_cell BK1.out 0).trans rfl, (blk_cell BK1.out 1).trans rfl, (blk_cell BK2.out 0).trans rfl, (blk_cell BK2.out 1).trans rfl⟩ (fun hHeld => ?_)
                    clear hK K
                    refine norm_ (a' := ?_) ?_ ?_
                    rotate_left
                    · show Act.put _ (some 8) _ = _
                      simp only [Act.put, List.setIfInBounds_toArray, List.set_cons_zero, List.set_cons_succ, i64_w, i32_w]
                      rfl
                    exact norm_ (by first | (simp only [putAll, Act.put, List.setIfInBounds_toArray, List.set_cons_zero, List.set_cons_succ]; done) | (simp only [putAll, Act.put, List.setIfInBounds_toArray, List.set_cons_zero, List.set_cons_succ]; rfl)) (hJ3 (B10, d10, B14, d14, B17, d17, gb3) _ ⟨lo10, hi10, lo14, hi14, lo17, hi17, gb3.succ, HO10, HO14, HO17, BK1, BK2, BK3, HB, HT, GE3, ⟨by have hn_ := HN.out; (try dsimp only); omega⟩⟩)
                · skip
                  refine box_step (by rfl) (N := 8) rfl (cs := #[.slice none 0 0, .bool false]) (t := 46) ?hr ?_
                  (case hr => first | (go_simp; done) | (go_simp; rfl))
                  intro gb3 hg W25 hbox hb
                  have nn : hi14 ≤ gb3 := Nat.le_trans HT.out (Nat.le_of_eq hg.symm)
                  have GE3 := Aside0.mk (Nat.le_trans (below_size HB.out) (Nat.le_of_eq hg.symm))
                  replace HO10 := Aside0.mk (Kd.R_below HO10.out hb)
                  replace HO14 := Aside0.mk (Kd.R_below HO14.out hb)
                  replace BK1 := Aside0.mk (blk_below (g := gb1) (o := .cells #[.slice A0_0 l0_0.length c0_0, .int .i64 a0_1] 24 (0, 0)) BK1.out hb)
                  replace BK2 := Aside0.mk (blk_below (g := gb2) (o := .cells #[.slice A1_0 l1_0.length c1_0, .bool a1_1] 42 (0, 0)) BK2.out hb)
                  replace HB := Aside0.mk (below_step HB.out hb)
                  replace HT := Aside0.mk (Nat.le_trans HT.out hb.size)
                  have BK3 := Aside0.mk hbox
                  replace HT := Aside0.mk (Nat.succ_le_of_lt (blk_lt hbox))
                  replace HN := Aside0.mk (And.intro nn HN.out)
                  clear hg hbox hb nn
                  refine hK.out _ _ ⟨(blk_cell BK1.out 0).trans rfl, (blk_cell BK1.out 1).trans rfl, (blk_cell BK2.out 0).trans rfl, (blk_cell BK2.out 1).trans rfl⟩ (fun hHeld => ?_)
                  clear hK K
                  refine norm_ (a' := ?_) ?_ ?_
                  rotate_left
                  · show Act.put _ (some 8) _ = _
                    simp only [Act.put, List.setIfInBounds_toArray, List.set_cons_zero, List.set_cons_succ, i64_w, i32_w]
                    rfl
                  exact norm_ (by first | (simp only [putAll, Act.put, List.setIfInBounds_toArray, List.set_cons_zero, List.set_cons_succ]; done) | (simp only [putAll, Act.put, List.setIfInBounds_toArray, List.set_cons_zero, List.set_cons_succ]; rfl)) (hJ2 (B10, d10, B14, d14, gb3) _ ⟨lo10, hi10, lo14, hi14, gb3.succ, HO10, HO14, BK1, BK2, BK3, HB, HT, GE3, ⟨by have hn_ := HN.out; (try dsimp only); omega⟩⟩)
              · skip
                refine box_step (by rfl) (N := 8) rfl (cs := #[.slice none 0 0, .bool false]) (t := 46) ?hr ?_
                (case hr => first | (go_simp; done) | (go_simp; rfl))
                intro gb3 hg W26 hbox hb
                have nn : hi10 ≤ gb3 := Nat.le_trans HT.out (Nat.le_of_eq hg.symm)
                have GE3 := Aside0.mk (Nat.le_trans (below_size HB.out) (Nat.le_of_eq hg.symm))
                replace HO10 := Aside0.mk (Kd.R_below HO10.out hb)
                replace BK1 := Aside0.mk (blk_below (g := gb1) (o := .cells #[.slice A0_0 l0_0.length c0_0, .int .i64 a0_1] 24 (0, 0)) BK1.out hb)
                replace BK2 := Aside0.mk (blk_below (g := gb2) (o := .cells #[.slice A1_0 l1_0.length c1_0, .bool a1_1] 42 (0, 0)) BK2.out hb)
                replace HB := Aside0.mk (below_step HB.out hb)
                replace HT := Aside0.mk (Nat.le_trans HT.out hb.size)
                have BK3 := Aside0.mk hbox
                replace HT := Aside0.mk (Nat.succ_le_of_lt (blk_lt hbox))
                replace HN := Aside0.mk (And.intro nn HN.out)
                clear hg hbox hb nn
                refine hK.out _ _ ⟨(blk_cell BK1.out 0).trans rfl, (blk_cell BK1.out 1).trans rfl, (blk_cell BK2.out 0).trans rfl, (blk_cell BK2.out 1).trans rfl⟩ (fun hHeld => ?_)
                clear hK K
                refine norm_ (a' := ?_) ?_ ?_
                rotate_left
                · show Act.put _ (some 8) _ = _
                  simp only [Act.put, List.setIfInBounds_toArray, List.set_cons_zero, List.set_cons_succ, i64_w, i32_w]
                  rfl
                exact norm_ (by first | (simp only [putAll, Act.put, List.setIfInBounds_toArray, List.set_cons_zero, List.set_cons_succ]; done) | (simp only [putAll, Act.put, List.setIfInBounds_toArray, List.set_cons_zero, List.set_cons_succ]; rfl)) (hJ1 (B10, d10, gb3) _ ⟨lo10, hi10, gb3.succ, HO10, BK1, BK2, BK3, HB, HT, GE3, ⟨by have hn_ := HN.out; (try dsimp only); omega⟩⟩)
            · skip
              refine box_step (by rfl) (N := 8) rfl (cs := #[.slice none 0 0, .bool false]) (t := 46) ?hr ?_
              (case hr => first | (go_simp; done) | (go_simp; rfl))
              intro gb3 hg W27 hbox hb
              have nn : gb2.succ ≤ gb3 := Nat.le_trans HT.out (Nat.le_of_eq hg.symm)
              have GE3 := Aside0.mk (Nat.le_trans (below_size HB.out) (Nat.le_of_eq hg.symm))
              replace BK1 := Aside0.mk (blk_below (g := gb1) (o := .cells #[.slice A0_0 l0_0.length c0_0, .int .i64 a0_1] 24 (0, 0)) BK1.out hb)
              replace BK2 := Aside0.mk (blk_below (g := gb2) (o := .cells #[.slice A1_0 l1_0.length c1_0, .bool a1_1] 42 (0, 0)) BK2.out hb)
              replace HB := Aside0.mk (below_step HB.out hb)
              replace HT := Aside0.mk (Nat.le_trans HT.out hb.size)
              have BK3 := Aside0.mk hbox
              replace HT := Aside0.mk (Nat.succ_le_of_lt (blk_lt hbox))
              replace HN := Aside0.mk (And.intro nn HN.out)
              clear hg hbox hb nn
              refine hK.out _ _ ⟨(blk_cell BK1.out 0).trans rfl, (blk_cell BK1.out 1).trans rfl, (blk_cell BK2.out 0).trans rfl, (blk_cell BK2.out 1).trans rfl⟩ (fun hHeld => ?_)
              clear hK K
              refine norm_ (a' := ?_) ?_ ?_
              rotate_left
              · show Act.put _ (some 8) _ = _
                simp only [Act.put, List.setIfInBounds_toArray, List.set_cons_zero, List.set_cons_succ, i64_w, i32_w]
                rfl
              exact norm_ (by first | (simp only [putAll, Act.put, List.setIfInBounds_toArray, List.set_cons_zero, List.set_cons_succ]; done) | (simp only [putAll, Act.put, List.setIfInBounds_toArray, List.set_cons_zero, List.set_cons_succ]; rfl)) (hJ0 (gb3) _ ⟨gb3.succ, BK1, BK2, BK3, HB, HT, GE3, ⟨by have hn_ := HN.out; (try dsimp only); omega⟩⟩)
          · skip
            clear BK1 BK2 HB HT
            (try clear hHeld)
            intro s_ W28 hF
            obtain ⟨gb3, hs_⟩ : ∃ x, x = s_ := ⟨_, rfl⟩
            subst hs_
            (try dsimp only at hF)
            obtain ⟨T0_, BK1, BK2, BK3, HB, HT, GE3, nn_⟩ := hF
            replace HN := Aside0.mk (And.intro nn_.out HN.out)
            clear nn_
            refine norm_ (a' := ?_) ?_ ?_
            rotate_left
            · simp only [putAll, Act.put, List.setIfInBounds_toArray, List.set_cons_zero, List.set_cons_succ]
              rfl
            refine one_ (i := 1) (N := some 37) #[true, true, true, false, true, false, false, false, false, false, true, false, false] rfl rfl (by kernel_rfl) (by decide) (fun K hK => ?_)
            refine goes_ Try.func17 (by kernel_rfl) rfl #[.agg #[.slice A0_0 l0_0.length c0_0, .int .i64 a0_1]] (by rfl) rfl rfl (by (try simp only [List.map_toArray, List.map_cons, List.map_nil]); first | done | rfl) ?_
            with_reducible refine (laws_toParty.calls k _ _ l0_0 a0_1 t8 t9 _ (Kd.C_below HR0_0.out HB.out) HC0_0.out A7.out).mono ?_
            rintro e W29 ⟨v10, rfl, ho10, hb⟩
            refine ⟨_, rfl, ?_⟩
            obtain ⟨B10, d10, e_⟩ := Kd.R_slice ho10
            subst e_
            obtain ⟨lo10, hi10, nn, ht_, hO10⟩ := laws_FnExactPlayTrips.newR ho10 HT.out (below_size HB.out) hb.size
            replace BK1 := Aside0.mk (blk_below (g := gb1) (o := .cells #[.slice A0_0 l0_0.length c0_0, .int .i64 a0_1] 24 (0, 0)) BK1.out hb)
            replace BK2 := Aside0.mk (blk_below (g := gb2) (o := .cells #[.slice A1_0 l1_0.length c1_0, .bool a1_1] 42 (0, 0)) BK2.out hb)
            replace BK3 := Aside0.mk (blk_below (g := gb3) (o := .cells #[.slice none 0 0, .bool false] 46 (0, 0)) BK3.out hb)
            replace HB := Aside0.mk (below_step HB.out hb)
            replace HT := Aside0.mk (Nat.le_trans HT.out hb.size)
            have HO10 := Aside0.mk hO10
            replace HT := Aside0.mk ht_
            replace HN := Aside0.mk (And.intro nn HN.out)
            clear ho10 hO10 nn ht_
            clear hb
            refine hK.out _ _ ⟨(blk_cell BK1.out 0).trans rfl, (blk_cell BK1.out 1).trans rfl, (blk_cell BK2.out 0).trans rfl, (blk_cell BK2.out 1).trans rfl⟩ (fun hHeld => ?_)
            clear hK K
            refine norm_ (a' := ?_) ?_ ?_
            rotate_left
            · show Act.put _ (some 37) _ = _
              simp only [Act.put, List.setIfInBounds_toArray, List.set_cons_zero, List.set_cons_succ, i64_w, i32_w]
              rfl
            exact norm_ (by first | (simp only [putAll, Act.put, List.setIfInBounds_toArray, List.set_cons_zero, List.set_cons_succ]; done) | (simp only [putAll, Act.put, List.setIfInBounds_toArray, List.set_cons_zero, List.set_cons_succ]; rfl)) (hJ1 (B10, d10, gb3) _ ⟨lo10, hi10, hi10, HO10, BK1, BK2, BK3, HB, HT, GE3, ⟨by have hn_ := HN.out; (try dsimp only); omega⟩⟩)
        · skip
          clear BK1 BK2 HB HT
          (try clear hHeld)
          intro s_ W30 hF
          obtain ⟨B10, d10, gb3⟩ := s_
          (try dsimp only at hF)
          obtain ⟨lo10, hi10, T1_, HO10, BK1, BK2, BK3, HB, HT, GE3, nn_⟩ := hF
          replace HN := Aside0.mk (And.intro nn_.out HN.out)
          clear nn_
          refine norm_ (a' := ?_) ?_ ?_
          rotate_left
          · simp only [putAll, Act.put, List.setIfInBounds_toArray, List.set_cons_zero, List.set_cons_succ]
            rfl
          refine one_ (i := 3) (N := some 39) #[true, true, true, true, true, false, false, false, false, false, true, false, false] rfl rfl (by kernel_rfl) (by decide) (fun K hK => ?_)
          refine goes_ Try.func32 (by kernel_rfl) rfl #[.agg #[.slice A1_0 l1_0.length c1_0, .bool a1_1]] (by rfl) rfl rfl (by (try simp only [List.map_toArray, List.map_cons, List.map_nil]); first | done | rfl) ?_
          with_reducible refine (laws_toState.calls k _ _ l1_0 a1_1 t12 t13 _ (Kd.C_below HR1_0.out HB.out) HC1_0.out A11.out).mono ?_
          rintro e W31 ⟨v14, rfl, ho14, hb⟩
          refine ⟨_, rfl, ?_⟩
          obtain ⟨B14, d14, e_⟩ := Kd.R_slice ho14
          subst e_
          obtain ⟨lo14, hi14, nn, ht_, hO14⟩ := laws_FnExactPlayTrips.newR ho14 HT.out (below_size HB.out) hb.size
          replace HO10 := Aside0.mk (Kd.R_below HO10.out hb)
          replace BK1 := Aside0.mk (blk_below (g := gb1) (o := .cells #[.slice A0_0 l0_0.length c0_0, .int .i64 a0_1] 24 (0, 0)) BK1.out hb)
          replace BK2 := Aside0.mk (blk_below (g := gb2) (o := .cells #[.slice A1_0 l1_0.length c1_0, .bool a1_1] 42 (0, 0)) BK2.out hb)
          replace BK3 := Aside0.mk (blk_below (g := gb3) (o := .cells #[.slice none 0 0, .bool false] 46 (0, 0)) BK3.out hb)
          replace HB := Aside0.mk (below_step HB.out hb)
          replace HT := Aside0.mk (Nat.le_trans HT.out hb.size)
          have HO14 := Aside0.mk hO14
          replace HT := Aside0.mk ht_
          replace HN := Aside0.mk (And.intro nn HN.out)
          clear ho14 hO14 nn ht_
          clear hb
          refine hK.out _ _ ⟨(blk_cell BK1.out 0).trans rfl, (blk_cell BK1.out 1).trans rfl, (blk_cell BK2.out 0).trans rfl, (blk_cell BK2.out 1).trans rfl⟩ (fun hHeld => ?_)
          clear hK K
          refine norm_ (a' := ?_) ?_ ?_
          rotate_left
          · show Act.put _ (some 39) _ = _
            simp only [Act.put, List.setIfInBounds_toArray, List.set_cons_zero, List.set_cons_succ, i64_w, i32_w]
            rfl
          exact norm_ (by first | (simp only [putAll, Act.put, List.setIfInBounds_toArray, List.set_cons_zero, List.set_cons_succ]; done) | (simp only [putAll, Act.put, List.setIfInBounds_toArray, List.set_cons_zero, List.set_cons_succ]; rfl)) (hJ2 (B10, d10, B14, d14, gb3) _ ⟨lo10, hi10, lo14, hi14, hi14, HO10, HO14, BK1, BK2, BK3, HB, HT, GE3, ⟨by have hn_ := HN.out; (try dsimp only); omega⟩⟩)
      · skip
        clear BK1 BK2 HB HT
        (try clear hHeld)
        intro s_ W32 hF
        obtain ⟨B10, d10, B14, d14, gb3⟩ := s_
        (try dsimp only at hF)
        obtain ⟨lo10, hi10, lo14, hi14, T2_, HO10, HO14, BK1, BK2, BK3, HB, HT, GE3, nn_⟩ := hF
        replace HN := Aside0.mk (And.intro nn_.out HN.out)
        clear nn_
        refine norm_ (a' := ?_) ?_ ?_
        rotate_left
        · simp only [putAll, Act.put, List.setIfInBounds_toArray, List.set_cons_zero, List.set_cons_succ]
          rfl
        refine one_ (i := 5) (N := some 41) #[true, true, true, true, true, true, false, false, false, false, true, false, false] rfl rfl (by kernel_rfl) (by decide) (fun K hK => ?_)
        refine goes_ Try.func48 (by kernel_rfl) rfl #[.slice A2 l2.length c2] (by rfl) rfl rfl (by (try simp only [List.map_toArray, List.map_cons, List.map_nil]); first | done | rfl) ?_
        with_reducible refine (laws_toIntSS.calls k _ _ l2 t16 _ (Kd.C_below HR2.out HB.out) HC2.out A15.out).mono ?_
        rintro e W33 ⟨v17, rfl, ho17, hb⟩
        refine ⟨_, rfl, ?_⟩
        obtain ⟨B17, d17, e_⟩ := Kd.S_slice ho17
        subst e_
        obtain ⟨lo17, hi17, nn, ht_, hO17⟩ := laws_FnExactPlayTrips.newS ho17 HT.out (below_size HB.out) hb.size
        replace HO10 := Aside0.mk (Kd.R_below HO10.out hb)
        replace HO14 := Aside0.mk (Kd.R_below HO14.out hb)
        replace BK1 := Aside0.mk (blk_below (g := gb1) (o := .cells #[.slice A0_0 l0_0.length c0_0, .int .i64 a0_1] 24 (0, 0)) BK1.out hb)
        replace BK2 := Aside0.mk (blk_below (g := gb2) (o := .cells #[.slice A1_0 l1_0.length c1_0, .bool a1_1] 42 (0, 0)) BK2.out hb)
        replace BK3 := Aside0.mk (blk_below (g := gb3) (o := .cells #[.slice none 0 0, .bool false] 46 (0, 0)) BK3.out hb)
        replace HB := Aside0.mk (below_step HB.out hb)
        replace HT := Aside0.mk (Nat.le_trans HT.out hb.size)
        have HO17 := Aside0.mk hO17
        replace HT := Aside0.mk ht_
        replace HN := Aside0.mk (And.intro nn HN.out)
        clear ho17 hO17 nn ht_
        clear hb
        refine hK.out _ _ ⟨(blk_cell BK1.out 0).trans rfl, (blk_cell BK1.out 1).trans rfl, (blk_cell BK2.out 0).trans rfl, (blk_cell BK2.out 1).trans rfl⟩ (fun hHeld => ?_)
        clear hK K
        refine norm_ (a' := ?_) ?_ ?_
        rotate_left
        · show Act.put _ (some 41) _ = _
          simp only [Act.put, List.setIfInBounds_toArray, List.set_cons_zero, List.set_cons_succ, i64_w, i32_w]
          rfl
        exact norm_ (by first | (simp only [putAll, Act.put, List.setIfInBounds_toArray, List.set_cons_zero, List.set_cons_succ]; done) | (simp only [putAll, Act.put, List.setIfInBounds_toArray, List.set_cons_zero, List.set_cons_succ]; rfl)) (hJ3 (B10, d10, B14, d14, B17, d17, gb3) _ ⟨lo10, hi10, lo14, hi14, lo17, hi17, hi17, HO10, HO14, HO17, BK1, BK2, BK3, HB, HT, GE3, ⟨by have hn_ := HN.out; (try dsimp only); omega⟩⟩)
    · skip
      clear BK1 BK2 HB HT
      (try clear hHeld)
      intro s_ W34 hF
      obtain ⟨B10, d10, B14, d14, B17, d17, gb3⟩ := s_
      (try dsimp only at hF)
      obtain ⟨lo10, hi10, lo14, hi14, lo17, hi17, T3_, HO10, HO14, HO17, BK1, BK2, BK3, HB, HT, GE3, nn_⟩ := hF
      replace HN := Aside0.mk (And.intro nn_.out HN.out)
      clear nn_
      refine norm_ (a' := ?_) ?_ ?_
      rotate_left
      · simp only [putAll, Act.put, List.setIfInBounds_toArray, List.set_cons_zero, List.set_cons_succ]
        rfl
      refine one_ (i := 6) (N := some 42) #[true, true, true, true, true, true, true, false, false, false, true, false, false] rfl rfl (by kernel_rfl) (by decide) (fun K hK => ?_)
      refine goes_ Try.func51 (by kernel_rfl) rfl #[.agg #[.slice B10 t8.length d10, .int .i64 t9], .agg #[.slice B14 t12.length d14, .bool t13], .slice B17 t16.length d17] (by rfl) rfl rfl (by (try simp only [List.map_toArray, List.map_cons, List.map_nil]); first | done | rfl) ?_
      with_reducible refine (spec_PlayTrips.calls k _ _ t8 t9 _ _ t12 t13 _ _ t16 t19 t20 t21 _ (Kd.R_reads' HO10.out).2.2 (Kd.R_reads' HO10.out).2.1 (Kd.R_reads' HO14.out).2.2 (Kd.R_reads' HO14.out).2.1 (Kd.R_reads' (Kd.S_R HO17.out)).2.2 (Kd.R_reads' (Kd.S_R HO17.out)).2.1 A18.out).mono ?_
      rintro e W35 ⟨v22, rfl, ho22, hb⟩
      refine ⟨_, rfl, ?_⟩
      obtain ⟨B22, d22, e_⟩ := Kd.R_slice ho22
      subst e_
      obtain ⟨lo22, hi22, nn, ht_, hO22⟩ := laws_FnExactPlayTrips.newR ho22 HT.out (below_size HB.out) hb.size
      replace HO10 := Aside0.mk (Kd.R_below HO10.out hb)
      replace HO14 := Aside0.mk (Kd.R_below HO14.out hb)
      replace HO17 := Aside0.mk (Kd.S_below HO17.out hb)
      replace BK1 := Aside0.mk (blk_below (g := gb1) (o := .cells #[.slice A0_0 l0_0.length c0_0, .int .i64 a0_1] 24 (0, 0)) BK1.out hb)
      replace BK2 := Aside0.mk (blk_below (g := gb2) (o := .cells #[.slice A1_0 l1_0.length c1_0, .bool a1_1] 42 (0, 0)) BK2.out hb)
      replace BK3 := Aside0.mk (blk_below (g := gb3) (o := .cells #[.slice none 0 0, .bool false] 46 (0, 0)) BK3.out hb)
      replace HB := Aside0.mk (below_step HB.out hb)
      replace HT := Aside0.mk (Nat.le_trans HT.out hb.size)
      have HO22 := Aside0.mk hO22
      replace HT := Aside0.mk ht_
      replace HN := Aside0.mk (And.intro nn HN.out)
      clear ho22 hO22 nn ht_
      clear hb
      clear HO10 HO14 HO17
      refine hK.out _ _ ⟨(blk_cell BK1.out 0).trans rfl, (blk_cell BK1.out 1).trans rfl, (blk_cell BK2.out 0).trans rfl, (blk_cell BK2.out 1).trans rfl⟩ (fun hHeld => ?_)
      clear hK K
      refine norm_ (a' := ?_) ?_ ?_
      rotate_left
      · show Act.put _ (some 42) _ = _
        simp only [Act.put, List.setIfInBounds_toArray, List.set_cons_zero, List.set_cons_succ, i64_w, i32_w]
        rfl
      refine pure_ (i := 7) (N := some 35) (v := ?_) (a' := ?_) #[true, true, true, true, true, true, true, true, false, false, true, false, false] rfl rfl (by kernel_rfl) (fun _ _ _ h => h) (Or.inl ⟨by rfl, ?_⟩) ?_ ?_
      rotate_left
      · intro w'
        go_simp
        with_reducible rfl
      rotate_left
      · simp only [Act.put, List.setIfInBounds_toArray, List.set_cons_zero, List.set_cons_succ, i64_w, i32_w]
        rfl
      refine pure_ (i := 8) (N := some 43) (v := ?_) (a' := ?_) #[true, true, true, true, true, true, true, true, true, false, true, false, false] rfl rfl (by kernel_rfl) (fun _ _ _ h => h) (Or.inl ⟨by rfl, ?_⟩) ?_ ?_
      rotate_left
      · intro w'
        go_simp
        with_reducible rfl
      rotate_left
      · simp only [Act.put, List.setIfInBounds_toArray, List.set_cons_zero, List.set_cons_succ, i64_w, i32_w]
        rfl
      refine pure_ (i := 9) (N := some 44) (v := ?_) (a' := ?_) #[true, true, true, true, true, true, true, true, true, true, true, false, false] rfl rfl (by kernel_rfl) (fun _ _ _ h => h) (Or.inl ⟨by rfl, ?_⟩) ?_ ?_
      rotate_left
      · intro w'
        go_simp
        with_reducible rfl
      rotate_left
      · simp only [Act.put, List.setIfInBounds_toArray, List.set_cons_zero, List.set_cons_succ, i64_w, i32_w]
        rfl
      exact norm_ (by first | (simp only [putAll, Act.put, List.setIfInBounds_toArray, List.set_cons_zero, List.set_cons_succ]; done) | (simp only [putAll, Act.put, List.setIfInBounds_toArray, List.set_cons_zero, List.set_cons_succ]; rfl)) (hJ4 (B10, d10, B14, d14, B17, d17, B22, d22, gb3) _ ⟨lo22, hi22, hi22, HO22, BK1, BK2, BK3, HB, HT, GE3, ⟨by have hn_ := HN.out; (try dsimp only); omega⟩⟩)
  clear BK1 BK2 HB HT
  (try clear hHeld)
  intro s_ W36 hF
  obtain ⟨B10, d10, B14, d14, B17, d17, B22, d22, gb3⟩ := s_
  (try dsimp only at hF)
  obtain ⟨lo22, hi22, T4_, HO22, BK1, BK2, BK3, HB, HT, GE3, nn_⟩ := hF
  replace HN := Aside0.mk (And.intro nn_.out HN.out)
  clear nn_
  refine norm_ (a' := ?_) ?_ ?_
  rotate_left
  · simp only [putAll, Act.put, List.setIfInBounds_toArray, List.set_cons_zero, List.set_cons_succ]
    rfl
  refine one_ (i := 11) (N := none) #[true, true, true, true, true, true, true, true, true, true, true, true, false] rfl rfl (by kernel_rfl) (by decide) (fun K hK => ?_)
  refine laws_FnExactPlayTrips.storeK (by rfl) rfl rfl gb3 46 #[.slice none 0 0, .bool false] (.agg #[.slice B22 t19.length d22, .bool t20]) [.slice B22 t19.length d22, .bool t20] rfl rfl BK3.out rfl (by kernel_rfl) rfl (by intro q_ hq_; simp only [List.mem_cons, List.not_mem_nil, or_false] at hq_; rcases hq_ with rfl | rfl <;> rfl) ?_
  intro W37 hbx hg
  replace HO22 := Aside0.mk (laws_FnExactPlayTrips.grownR HO22.out hg (by have hn_ := HN.out; omega))
  replace BK1 := Aside0.mk (laws_FnExactPlayTrips.grownB BK1.out hg (by have hn_ := HN.out; omega))
  replace BK2 := Aside0.mk (laws_FnExactPlayTrips.grownB BK2.out hg (by have hn_ := HN.out; omega))
  replace HB := Aside0.mk (Below.grown HB.out hg (below_size HB.out) (fun k_ hk_ => by injection hk_ with hk_; subst hk_; exact GE3.out))
  replace HT := Aside0.mk (Nat.le_trans HT.out hg.size)
  replace BK3 := Aside0.mk hbx
  clear hbx hg
  refine hK.out _ _ ⟨(blk_cell BK1.out 0).trans rfl, (blk_cell BK1.out 1).trans rfl, (blk_cell BK2.out 0).trans rfl, (blk_cell BK2.out 1).trans rfl⟩ (fun hHeld => ?_)
  clear hK K
  refine pure_ (i := 12) (N := some 9) (v := ?_) (a' := ?_) #[true, true, true, true, true, true, true, true, true, true, true, true, true] rfl rfl (by kernel_rfl) (fun _ _ _ h => h) (Or.inl ⟨by rfl, ?_⟩) ?_ ?_
  rotate_left
  · intro w'
    go_simp
    with_reducible rfl
  rotate_left
  · simp only [Act.put, List.setIfInBounds_toArray, List.set_cons_zero, List.set_cons_succ, i64_w, i32_w]
    rfl
  refine done_ (by kernel_rfl) ?_
  have cz1_0 : W37.cell? ⟨gb1, 0, none⟩ = some (.slice A0_0 l0_0.length c0_0) := (blk_cell BK1.out 0).trans rfl
  have cz1_1 : W37.cell? ⟨gb1, 1, none⟩ = some (.int .i64 a0_1) := (blk_cell BK1.out 1).trans rfl
  try go_wp2_with (first | ((with_reducible refine gate_dst (N := 46) rfl ?_); refine goesL_ (some 46) rfl rfl Try.func17 (by kernel_rfl) rfl #[.agg #[.slice A0_0 l0_0.length c0_0, .int .i64 a0_1]] rfl (by (try simp only [List.map_toArray, List.map_cons, List.map_nil]); first | done | rfl) ?_; (with_reducible refine (laws_toParty.calls k _ _ l0_0 a0_1 t24 t25 _ (Kd.C_below HR0_0.out HB.out) HC0_0.out A23.out).mono ?_); rintro e W38 ⟨v26, rfl, ho26, hb⟩; refine ⟨_, rfl, ?_⟩; obtain ⟨B26, d26, e_⟩ := Kd.R_slice ho26; subst e_; obtain ⟨lo26, hi26, nn, ht_, hO26⟩ := laws_FnExactPlayTrips.newR ho26 HT.out (below_size HB.out) hb.size; replace HO22 := Aside0.mk (Kd.R_below HO22.out hb); replace BK1 := Aside0.mk (blk_below (g := gb1) (o := .cells #[.slice A0_0 l0_0.length c0_0, .int .i64 a0_1] 24 (0, 0)) BK1.out hb); replace BK2 := Aside0.mk (blk_below (g := gb2) (o := .cells #[.slice A1_0 l1_0.length c1_0, .bool a1_1] 42 (0, 0)) BK2.out hb); replace BK3 := Aside0.mk (blk_below (g := gb3) (o := .cells #[.slice B22 t19.length d22, .bool t20] 46 (0, 0)) BK3.out hb); replace HB := Aside0.mk (below_step HB.out hb); replace HT := Aside0.mk (Nat.le_trans HT.out hb.size); have HO26 := Aside0.mk hO26; replace HT := Aside0.mk ht_; replace HN := Aside0.mk (And.intro nn HN.out); clear ho26 hO26 nn ht_; clear hb; (try clear cz1_0 cz1_1)) | ((with_reducible refine gate_dst (N := 10) rfl ?_); refine box_event ?hg (N := 10) ?hd (cs := #[.slice none 0 0, .int .i64 0]) (t := 27) ?hr ?_; (case hd => rfl); (case hg => rfl); (case hr => first | (go_simp; done) | (go_simp; rfl)); intro gb4 hg W39 hbox hb; have nn : hi26 ≤ gb4 := Nat.le_trans HT.out (Nat.le_of_eq hg.symm); have GE4 := Aside0.mk (Nat.le_trans (below_size HB.out) (Nat.le_of_eq hg.symm)); replace HO22 := Aside0.mk (Kd.R_below HO22.out hb); replace HO26 := Aside0.mk (Kd.R_below HO26.out hb); replace BK1 := Aside0.mk (blk_below (g := gb1) (o := .cells #[.slice A0_0 l0_0.length c0_0, .int .i64 a0_1] 24 (0, 0)) BK1.out hb); replace BK2 := Aside0.mk (blk_below (g := gb2) (o := .cells #[.slice A1_0 l1_0.length c1_0, .bool a1_1] 42 (0, 0)) BK2.out hb); replace BK3 := Aside0.mk (blk_below (g := gb3) (o := .cells #[.slice B22 t19.length d22, .bool t20] 46 (0, 0)) BK3.out hb); replace HB := Aside0.mk (below_step HB.out hb); replace HT := Aside0.mk (Nat.le_trans HT.out hb.size); have BK4 := Aside0.mk hbox; replace HT := Aside0.mk (Nat.succ_le_of_lt (blk_lt hbox)); replace HN := Aside0.mk (And.intro nn HN.out); clear hg hbox hb nn) | ((with_reducible refine gate_store (t := 27) (p := 10) rfl ?_); refine laws_FnExactPlayTrips.store rfl rfl rfl gb4 27 #[.slice none 0 0, .int .i64 0] (.agg #[.slice B26 t24.length d26, .int .i64 t25]) [.slice B26 t24.length d26, .int .i64 t25] rfl rfl BK4.out rfl (by kernel_rfl) rfl (by intro q_ hq_; simp only [List.mem_cons, List.not_mem_nil, or_false] at hq_; rcases hq_ with rfl | rfl <;> rfl) ?_; intro W40 hbx hg; replace HO22 := Aside0.mk (laws_FnExactPlayTrips.grownR HO22.out hg (by have hn_ := HN.out; omega)); replace HO26 := Aside0.mk (laws_FnExactPlayTrips.grownR HO26.out hg (by have hn_ := HN.out; omega)); replace BK1 := Aside0.mk (laws_FnExactPlayTrips.grownB BK1.out hg (by have hn_ := HN.out; omega)); replace BK2 := Aside0.mk (laws_FnExactPlayTrips.grownB BK2.out hg (by have hn_ := HN.out; omega)); replace BK3 := Aside0.mk (laws_FnExactPlayTrips.grownB BK3.out hg (by have hn_ := HN.out; omega)); replace HB := Aside0.mk (Below.grown HB.out hg (below_size HB.out) (fun k_ hk_ => by injection hk_ with hk_; subst hk_; exact GE4.out)); replace HT := Aside0.mk (Nat.le_trans HT.out hg.size); replace BK4 := Aside0.mk hbx; clear hbx hg; have cz2_0 : W40.cell? ⟨gb2, 0, none⟩ = some (.slice A1_0 l1_0.length c1_0) := (blk_cell BK2.out 0).trans rfl; have cz2_1 : W40.cell? ⟨gb2, 1, none⟩ = some (.bool a1_1) := (blk_cell BK2.out 1).trans rfl) | ((with_reducible refine gate_dst (N := 48) rfl ?_); refine goesL_ (some 48) rfl rfl Try.func32 (by kernel_rfl) rfl #[.agg #[.slice A1_0 l1_0.length c1_0, .bool a1_1]] rfl (by (try simp only [List.map_toArray, List.map_cons, List.map_nil]); first | done | rfl) ?_; (with_reducible refine (laws_toState.calls k _ _ l1_0 a1_1 t28 t29 _ (Kd.C_below HR1_0.out HB.out) HC1_0.out A27.out).mono ?_); rintro e W41 ⟨v30, rfl, ho30, hb⟩; refine ⟨_, rfl, ?_⟩; obtain ⟨B30, d30, e_⟩ := Kd.R_slice ho30; subst e_; obtain ⟨lo30, hi30, nn, ht_, hO30⟩ := laws_FnExactPlayTrips.newR ho30 HT.out (below_size HB.out) hb.size; replace HO22 := Aside0.mk (Kd.R_below HO22.out hb); replace HO26 := Aside0.mk (Kd.R_below HO26.out hb); replace BK1 := Aside0.mk (blk_below (g := gb1) (o := .cells #[.slice A0_0 l0_0.length c0_0, .int .i64 a0_1] 24 (0, 0)) BK1.out hb); replace BK2 := Aside0.mk (blk_below (g := gb2) (o := .cells #[.slice A1_0 l1_0.length c1_0, .bool a1_1] 42 (0, 0)) BK2.out hb); replace BK3 := Aside0.mk (blk_below (g := gb3) (o := .cells #[.slice B22 t19.length d22, .bool t20] 46 (0, 0)) BK3.out hb); replace BK4 := Aside0.mk (blk_below (g := gb4) (o := .cells #[.slice B26 t24.length d26, .int .i64 t25] 27 (0, 0)) BK4.out hb); replace HB := Aside0.mk (below_step HB.out hb); replace HT := Aside0.mk (Nat.le_trans HT.out hb.size); have HO30 := Aside0.mk hO30; replace HT := Aside0.mk ht_; replace HN := Aside0.mk (And.intro nn HN.out); clear ho30 hO30 nn ht_; clear hb; (try clear cz2_0 cz2_1)) | ((with_reducible refine gate_dst (N := 11) rfl ?_); refine box_event ?hg (N := 11) ?hd (cs := #[.slice none 0 0, .bool false]) (t := 46) ?hr ?_; (case hd => rfl); (case hg => rfl); (case hr => first | (go_simp; done) | (go_simp; rfl)); intro gb5 hg W42 hbox hb; have nn : hi30 ≤ gb5 := Nat.le_trans HT.out (Nat.le_of_eq hg.symm); have GE5 := Aside0.mk (Nat.le_trans (below_size HB.out) (Nat.le_of_eq hg.symm)); replace HO22 := Aside0.mk (Kd.R_below HO22.out hb); replace HO26 := Aside0.mk (Kd.R_below HO26.out hb); replace HO30 := Aside0.mk (Kd.R_below HO30.out hb); replace BK1 := Aside0.mk (blk_below (g := gb1) (o := .cells #[.slice A0_0 l0_0.length c0_0, .int .i64 a0_1] 24 (0, 0)) BK1.out hb); replace BK2 := Aside0.mk (blk_below (g := gb2) (o := .cells #[.slice A1_0 l1_0.length c1_0, .bool a1_1] 42 (0, 0)) BK2.out hb); replace BK3 := Aside0.mk (blk_below (g := gb3) (o := .cells #[.slice B22 t19.length d22, .bool t20] 46 (0, 0)) BK3.out hb); replace BK4 := Aside0.mk (blk_below (g := gb4) (o := .cells #[.slice B26 t24.length d26, .int .i64 t25] 27 (0, 0)) BK4.out hb); replace HB := Aside0.mk (below_step HB.out hb); replace HT := Aside0.mk (Nat.le_trans HT.out hb.size); have BK5 := Aside0.mk hbox; replace HT := Aside0.mk (Nat.succ_le_of_lt (blk_lt hbox)); replace HN := Aside0.mk (And.intro nn HN.out); clear hg hbox hb nn) | ((with_reducible refine gate_store (t := 46) (p := 11) rfl ?_); refine laws_FnExactPlayTrips.store rfl rfl rfl gb5 46 #[.slice none 0 0, .bool false] (.agg #[.slice B30 t28.length d30, .bool t29]) [.slice B30 t28.length d30, .bool t29] rfl rfl BK5.out rfl (by kernel_rfl) rfl (by intro q_ hq_; simp only [List.mem_cons, List.not_mem_nil, or_false] at hq_; rcases hq_ with rfl | rfl <;> rfl) ?_; intro W43 hbx hg; replace HO22 := Aside0.mk (laws_FnExactPlayTrips.grownR HO22.out hg (by have hn_ := HN.out; omega)); replace HO26 := Aside0.mk (laws_FnExactPlayTrips.grownR HO26.out hg (by have hn_ := HN.out; omega)); replace HO30 := Aside0.mk (laws_FnExactPlayTrips.grownR HO30.out hg (by have hn_ := HN.out; omega)); replace BK1 := Aside0.mk (laws_FnExactPlayTrips.grownB BK1.out hg (by have hn_ := HN.out; omega)); replace BK2 := Aside0.mk (laws_FnExactPlayTrips.grownB BK2.out hg (by have hn_ := HN.out; omega)); replace BK3 := Aside0.mk (laws_FnExactPlayTrips.grownB BK3.out hg (by have hn_ := HN.out; omega)); replace BK4 := Aside0.mk (laws_FnExactPlayTrips.grownB BK4.out hg (by have hn_ := HN.out; omega)); replace HB := Aside0.mk (Below.grown HB.out hg (below_size HB.out) (fun k_ hk_ => by injection hk_ with hk_; subst hk_; exact GE5.out)); replace HT := Aside0.mk (Nat.le_trans HT.out hg.size); replace BK5 := Aside0.mk hbx; clear hbx hg) | ((with_reducible refine gate_dst (N := 50) rfl ?_); refine goesL_ (some 50) rfl rfl Try.func48 (by kernel_rfl) rfl #[.slice A2 l2.length c2] rfl (by (try simp only [List.map_toArray, List.map_cons, List.map_nil]); first | done | rfl) ?_; (with_reducible refine (laws_toIntSS.calls k _ _ l2 t32 _ (Kd.C_below HR2.out HB.out) HC2.out A31.out).mono ?_); rintro e W44 ⟨v33, rfl, ho33, hb⟩; refine ⟨_, rfl, ?_⟩; obtain ⟨B33, d33, e_⟩ := Kd.S_slice ho33; subst e_; obtain ⟨lo33, hi33, nn, ht_, hO33⟩ := laws_FnExactPlayTrips.newS ho33 HT.out (below_size HB.out) hb.size; replace HO22 := Aside0.mk (Kd.R_below HO22.out hb); replace HO26 := Aside0.mk (Kd.R_below HO26.out hb); replace HO30 := Aside0.mk (Kd.R_below HO30.out hb); replace BK1 := Aside0.mk (blk_below (g := gb1) (o := .cells #[.slice A0_0 l0_0.length c0_0, .int .i64 a0_1] 24 (0, 0)) BK1.out hb); replace BK2 := Aside0.mk (blk_below (g := gb2) (o := .cells #[.slice A1_0 l1_0.length c1_0, .bool a1_1] 42 (0, 0)) BK2.out hb); replace BK3 := Aside0.mk (blk_below (g := gb3) (o := .cells #[.slice B22 t19.length d22, .bool t20] 46 (0, 0)) BK3.out hb); replace BK4 := Aside0.mk (blk_below (g := gb4) (o := .cells #[.slice B26 t24.length d26, .int .i64 t25] 27 (0, 0)) BK4.out hb); replace BK5 := Aside0.mk (blk_below (g := gb5) (o := .cells #[.slice B30 t28.length d30, .bool t29] 46 (0, 0)) BK5.out hb); replace HB := Aside0.mk (below_step HB.out hb); replace HT := Aside0.mk (Nat.le_trans HT.out hb.size); have HO33 := Aside0.mk hO33; replace HT := Aside0.mk ht_; replace HN := Aside0.mk (And.intro nn HN.out); clear ho33 hO33 nn ht_; clear hb; have cz4_0 : W44.cell? ⟨gb4, 0, none⟩ = some (.slice B26 t24.length d26) := (blk_cell BK4.out 0).trans rfl; have cz4_1 : W44.cell? ⟨gb4, 1, none⟩ = some (.int .i64 t25) := (blk_cell BK4.out 1).trans rfl; have cz5_0 : W44.cell? ⟨gb5, 0, none⟩ = some (.slice B30 t28.length d30) := (blk_cell BK5.out 0).trans rfl; have cz5_1 : W44.cell? ⟨gb5, 1, none⟩ = some (.bool t29) := (blk_cell BK5.out 1).trans rfl) | ((with_reducible refine gate_dst (N := 55) rfl ?_); refine goesL_ (some 55) rfl rfl Try.func52 (by kernel_rfl) rfl #[.agg #[.slice B26 t24.length d26, .int .i64 t25], .agg #[.slice B30 t28.length d30, .bool t29], .slice B33 t32.length d33] rfl (by (try simp only [List.map_toArray, List.map_cons, List.map_nil]); first | done | rfl) ?_; (with_reducible refine (impl_PlayTrips.calls k _ _ t24 t25 (fun _ => True) _ _ t28 t29 _ _ t32 t35 t36 t37 _ (Kd.R_reads' HO26.out).2.2 (Kd.R_reads' HO26.out).2.1 (Kd.V_mono (Kd.R_V (Kd.R_lower HO30.out (Nat.le_refl _))) (fun _ _ => trivial)) (Kd.R_reads' (Kd.S_R HO33.out)).2.2 (Kd.R_reads' (Kd.S_R HO33.out)).2.1 A34.out).mono ?_); rintro e W45 ⟨v38, rfl, ho38, hb⟩; refine ⟨_, rfl, ?_⟩; obtain ⟨B38, d38, e_⟩ := Kd.R_slice ho38; subst e_; obtain ⟨lo38, hi38, nn, ht_, hO38⟩ := laws_FnExactPlayTrips.newR ho38 HT.out (below_size HB.out) hb.size; replace HO22 := Aside0.mk (Kd.R_below HO22.out hb); replace HO26 := Aside0.mk (Kd.R_below HO26.out hb); replace HO30 := Aside0.mk (Kd.R_below HO30.out hb); replace HO33 := Aside0.mk (Kd.S_below HO33.out hb); replace BK1 := Aside0.mk (blk_below (g := gb1) (o := .cells #[.slice A0_0 l0_0.length c0_0, .int .i64 a0_1] 24 (0, 0)) BK1.out hb); replace BK2 := Aside0.mk (blk_below (g := gb2) (o := .cells #[.slice A1_0 l1_0.length c1_0, .bool a1_1] 42 (0, 0)) BK2.out hb); replace BK3 := Aside0.mk (blk_below (g := gb3) (o := .cells #[.slice B22 t19.length d22, .bool t20] 46 (0, 0)) BK3.out hb); replace BK4 := Aside0.mk (blk_below (g := gb4) (o := .cells #[.slice B26 t24.length d26, .int .i64 t25] 27 (0, 0)) BK4.out hb); replace BK5 := Aside0.mk (blk_below (g := gb5) (o := .cells #[.slice B30 t28.length d30, .bool t29] 46 (0, 0)) BK5.out hb); replace HB := Aside0.mk (below_step HB.out hb); replace HT := Aside0.mk (Nat.le_trans HT.out hb.size); have HO38 := Aside0.mk hO38; replace HT := Aside0.mk ht_; replace HN := Aside0.mk (And.intro nn HN.out); clear ho38 hO38 nn ht_; clear hb; (try clear cz4_0 cz4_1 cz5_0 cz5_1)) | ((with_reducible refine gate_dst (N := 13) rfl ?_); refine box_event ?hg (N := 13) ?hd (cs := #[.slice none 0 0, .bool false]) (t := 46) ?hr ?_; (case hd => rfl); (case hg => rfl); (case hr => first | (go_simp; done) | (go_simp; rfl)); intro gb6 hg W46 hbox hb; have nn : hi38 ≤ gb6 := Nat.le_trans HT.out (Nat.le_of_eq hg.symm); have GE6 := Aside0.mk (Nat.le_trans (below_size HB.out) (Nat.le_of_eq hg.symm)); replace HO22 := Aside0.mk (Kd.R_below HO22.out hb); replace HO26 := Aside0.mk (Kd.R_below HO26.out hb); replace HO30 := Aside0.mk (Kd.R_below HO30.out hb); replace HO33 := Aside0.mk (Kd.S_below HO33.out hb); replace HO38 := Aside0.mk (Kd.R_below HO38.out hb); replace BK1 := Aside0.mk (blk_below (g := gb1) (o := .cells #[.slice A0_0 l0_0.length c0_0, .int .i64 a0_1] 24 (0, 0)) BK1.out hb); replace BK2 := Aside0.mk (blk_below (g := gb2) (o := .cells #[.slice A1_0 l1_0.length c1_0, .bool a1_1] 42 (0, 0)) BK2.out hb); replace BK3 := Aside0.mk (blk_below (g := gb3) (o := .cells #[.slice B22 t19.length d22, .bool t20] 46 (0, 0)) BK3.out hb); replace BK4 := Aside0.mk (blk_below (g := gb4) (o := .cells #[.slice B26 t24.length d26, .int .i64 t25] 27 (0, 0)) BK4.out hb); replace BK5 := Aside0.mk (blk_below (g := gb5) (o := .cells #[.slice B30 t28.length d30, .bool t29] 46 (0, 0)) BK5.out hb); replace HB := Aside0.mk (below_step HB.out hb); replace HT := Aside0.mk (Nat.le_trans HT.out hb.size); have BK6 := Aside0.mk hbox; replace HT := Aside0.mk (Nat.succ_le_of_lt (blk_lt hbox)); replace HN := Aside0.mk (And.intro nn HN.out); clear hg hbox hb nn) | ((with_reducible refine gate_store (t := 46) (p := 13) rfl ?_); refine laws_FnExactPlayTrips.store rfl rfl rfl gb6 46 #[.slice none 0 0, .bool false] (.agg #[.slice B38 t35.length d38, .bool t36]) [.slice B38 t35.length d38, .bool t36] rfl rfl BK6.out rfl (by kernel_rfl) rfl (by intro q_ hq_; simp only [List.mem_cons, List.not_mem_nil, or_false] at hq_; rcases hq_ with rfl | rfl <;> rfl) ?_; intro W47 hbx hg; replace HO22 := Aside0.mk (laws_FnExactPlayTrips.grownR HO22.out hg (by have hn_ := HN.out; omega)); replace HO26 := Aside0.mk (laws_FnExactPlayTrips.grownR HO26.out hg (by have hn_ := HN.out; omega)); replace HO30 := Aside0.mk (laws_FnExactPlayTrips.grownR HO30.out hg (by have hn_ := HN.out; omega)); replace HO33 := Aside0.mk (laws_FnExactPlayTrips.grownS HO33.out hg (by have hn_ := HN.out; omega)); replace HO38 := Aside0.mk (laws_FnExactPlayTrips.grownR HO38.out hg (by have hn_ := HN.out; omega)); replace BK1 := Aside0.mk (laws_FnExactPlayTrips.grownB BK1.out hg (by have hn_ := HN.out; omega)); replace BK2 := Aside0.mk (laws_FnExactPlayTrips.grownB BK2.out hg (by have hn_ := HN.out; omega)); replace BK3 := Aside0.mk (laws_FnExactPlayTrips.grownB BK3.out hg (by have hn_ := HN.out; omega)); replace BK4 := Aside0.mk (laws_FnExactPlayTrips.grownB BK4.out hg (by have hn_ := HN.out; omega)); replace BK5 := Aside0.mk (laws_FnExactPlayTrips.grownB BK5.out hg (by have hn_ := HN.out; omega)); replace HB := Aside0.mk (Below.grown HB.out hg (below_size HB.out) (fun k_ hk_ => by injection hk_ with hk_; subst hk_; exact GE6.out)); replace HT := Aside0.mk (Nat.le_trans HT.out hg.size); replace BK6 := Aside0.mk hbx; clear hbx hg; have cz6_0 : W47.cell? ⟨gb6, 0, none⟩ = some (.slice B38 t35.length d38) := (blk_cell BK6.out 0).trans rfl; have cz6_1 : W47.cell? ⟨gb6, 1, none⟩ = some (.bool t36) := (blk_cell BK6.out 1).trans rfl; have cz3_0 : W47.cell? ⟨gb3, 0, none⟩ = some (.slice B22 t19.length d22) := (blk_cell BK3.out 0).trans rfl; have cz3_1 : W47.cell? ⟨gb3, 1, none⟩ = some (.bool t20) := (blk_cell BK3.out 1).trans rfl) | ((with_reducible refine gate_dst (N := 60) rfl ?_); refine goesL_ (some 60) rfl rfl Try.func34 (by kernel_rfl) rfl #[.agg #[.slice B38 t35.length d38, .bool t36], .agg #[.slice B22 t19.length d22, .bool t20]] rfl (by (try simp only [List.map_toArray, List.map_cons, List.map_nil]); first | done | rfl) ?_; (with_reducible refine (laws_eqState.calls k _ _ t35 t36 _ _ t19 t20 true _ (Kd.R_reads' HO38.out).2.2 (Kd.R_reads' HO38.out).2.1 (Kd.R_reads' HO22.out).2.2 (Kd.R_reads' HO22.out).2.1 A39.out).mono ?_); rintro e W48 ⟨rfl, hb⟩; refine ⟨_, rfl, ?_⟩; replace HO22 := Aside0.mk (Kd.R_below HO22.out hb); replace HO26 := Aside0.mk (Kd.R_below HO26.out hb); replace HO30 := Aside0.mk (Kd.R_below HO30.out hb); replace HO33 := Aside0.mk (Kd.S_below HO33.out hb); replace HO38 := Aside0.mk (Kd.R_below HO38.out hb); replace BK1 := Aside0.mk (blk_below (g := gb1) (o := .cells #[.slice A0_0 l0_0.length c0_0, .int .i64 a0_1] 24 (0, 0)) BK1.out hb); replace BK2 := Aside0.mk (blk_below (g := gb2) (o := .cells #[.slice A1_0 l1_0.length c1_0, .bool a1_1] 42 (0, 0)) BK2.out hb); replace BK3 := Aside0.mk (blk_below (g := gb3) (o := .cells #[.slice B22 t19.length d22, .bool t20] 46 (0, 0)) BK3.out hb); replace BK4 := Aside0.mk (blk_below (g := gb4) (o := .cells #[.slice B26 t24.length d26, .int .i64 t25] 27 (0, 0)) BK4.out hb); replace BK5 := Aside0.mk (blk_below (g := gb5) (o := .cells #[.slice B30 t28.length d30, .bool t29] 46 (0, 0)) BK5.out hb); replace BK6 := Aside0.mk (blk_below (g := gb6) (o := .cells #[.slice B38 t35.length d38, .bool t36] 46 (0, 0)) BK6.out hb); replace HB := Aside0.mk (below_step HB.out hb); replace HT := Aside0.mk (Nat.le_trans HT.out hb.size); clear hb; (try clear cz6_0 cz6_1 cz3_0 cz3_1)))
  have hb : Below W48.heap.size W48 W48.drew := below_drew (Below.refl _ _)
  replace HO22 := Aside0.mk (Kd.R_below HO22.out hb)
  replace HO26 := Aside0.mk (Kd.R_below HO26.out hb)
  replace HO30 := Aside0.mk (Kd.R_below HO30.out hb)
  replace HO33 := Aside0.mk (Kd.S_below HO33.out hb)
  replace HO38 := Aside0.mk (Kd.R_below HO38.out hb)
  replace BK1 := Aside0.mk (blk_below (g := gb1) (o := .cells #[.slice A0_0 l0_0.length c0_0, .int .i64 a0_1] 24 (0, 0)) BK1.out hb)
  replace BK2 := Aside0.mk (blk_below (g := gb2) (o := .cells #[.slice A1_0 l1_0.length c1_0, .bool a1_1] 42 (0, 0)) BK2.out hb)
  replace BK3 := Aside0.mk (blk_below (g := gb3) (o := .cells #[.slice B22 t19.length d22, .bool t20] 46 (0, 0)) BK3.out hb)
  replace BK4 := Aside0.mk (blk_below (g := gb4) (o := .cells #[.slice B26 t24.length d26, .int .i64 t25] 27 (0, 0)) BK4.out hb)
  replace BK5 := Aside0.mk (blk_below (g := gb5) (o := .cells #[.slice B30 t28.length d30, .bool t29] 46 (0, 0)) BK5.out hb)
  replace BK6 := Aside0.mk (blk_below (g := gb6) (o := .cells #[.slice B38 t35.length d38, .bool t36] 46 (0, 0)) BK6.out hb)
  replace HB := Aside0.mk (below_step HB.out hb)
  replace HT := Aside0.mk (Nat.le_trans HT.out hb.size)
  clear hb
  refine start_ (n := 5) (S := fun w' => w'.cell? ⟨gb4, 0, none⟩ = some (.slice B26 t24.length d26) ∧ w'.cell? ⟨gb4, 1, none⟩ = some (.int .i64 t25) ∧ w'.cell? ⟨gb1, 0, none⟩ = some (.slice A0_0 l0_0.length c0_0) ∧ w'.cell? ⟨gb1, 1, none⟩ = some (.int .i64 a0_1)) (ds := []) #[false, false, false, false, false] (by kernel_rfl) rfl rfl ⟨(blk_cell BK4.out 0).trans rfl, (blk_cell BK4.out 1).trans rfl, (blk_cell BK1.out 0).trans rfl, (blk_cell BK1.out 1).trans rfl⟩ (fun hHeld => ?_)
  generalize W48.drew = W49 at HO22 HO26 HO30 HO33 HO38 BK1 BK2 BK3 BK4 BK5 BK6 HB HT hHeld ⊢
  refine take_ (i := 0) (N := some 67) (v := ?_) (a' := ?_) #[true, false, false, false, false] rfl rfl (by kernel_rfl) (fun _ _ _ h => h) (Or.inl ⟨by rfl, ?_⟩) hHeld ?_ ?_
  rotate_left
  · rintro w' ⟨s0, s1, s2, s3⟩
    go_simp
    with_reducible rfl
  rotate_left
  · simp only [Act.put, List.setIfInBounds_toArray, List.set_cons_zero, List.set_cons_succ, i64_w, i32_w]
    rfl
  refine take_ (i := 1) (N := some 68) (v := ?_) (a' := ?_) #[true, true, false, false, false] rfl rfl (by kernel_rfl) (fun _ _ _ h => h) (Or.inl ⟨by rfl, ?_⟩) hHeld ?_ ?_
  rotate_left
  · rintro w' ⟨s0, s1, s2, s3⟩
    go_simp
    with_reducible rfl
  rotate_left
  · simp only [Act.put, List.setIfInBounds_toArray, List.set_cons_zero, List.set_cons_succ, i64_w, i32_w]
    rfl
  refine one_ (i := 2) (N := some 69) #[true, true, true, false, false] rfl rfl (by kernel_rfl) (by decide) (fun K hK => ?_)
  refine goes_ Try.func17 (by kernel_rfl) rfl #[.agg #[.slice A0_0 l0_0.length c0_0, .int .i64 a0_1]] (by rfl) rfl rfl (by (try simp only [List.map_toArray, List.map_cons, List.map_nil]); first | done | rfl) ?_
  with_reducible refine (laws_toParty.calls k _ _ l0_0 a0_1 t42 t43 _ (Kd.C_below HR0_0.out HB.out) HC0_0.out A41.out).mono ?_
  rintro e W50 ⟨v44, rfl, ho44, hb⟩
  refine ⟨_, rfl, ?_⟩
  obtain ⟨B44, d44, e_⟩ := Kd.R_slice ho44
  subst e_
  obtain ⟨lo44, hi44, nn, ht_, hO44⟩ := laws_FnExactPlayTrips.newR ho44 HT.out (below_size HB.out) hb.size
  replace HO22 := Aside0.mk (Kd.R_below HO22.out hb)
  replace HO26 := Aside0.mk (Kd.R_below HO26.out hb)
  replace HO30 := Aside0.mk (Kd.R_below HO30.out hb)
  replace HO33 := Aside0.mk (Kd.S_below HO33.out hb)
  replace HO38 := Aside0.mk (Kd.R_below HO38.out hb)
  replace BK1 := Aside0.mk (blk_below (g := gb1) (o := .cells #[.slice A0_0 l0_0.length c0_0, .int .i64 a0_1] 24 (0, 0)) BK1.out hb)
  replace BK2 := Aside0.mk (blk_below (g := gb2) (o := .cells #[.slice A1_0 l1_0.length c1_0, .bool a1_1] 42 (0, 0)) BK2.out hb)
  replace BK3 := Aside0.mk (blk_below (g := gb3) (o := .cells #[.slice B22 t19.length d22, .bool t20] 46 (0, 0)) BK3.out hb)
  replace BK4 := Aside0.mk (blk_below (g := gb4) (o := .cells #[.slice B26 t24.length d26, .int .i64 t25] 27 (0, 0)) BK4.out hb)
  replace BK5 := Aside0.mk (blk_below (g := gb5) (o := .cells #[.slice B30 t28.length d30, .bool t29] 46 (0, 0)) BK5.out hb)
  replace BK6 := Aside0.mk (blk_below (g := gb6) (o := .cells #[.slice B38 t35.length d38, .bool t36] 46 (0, 0)) BK6.out hb)
  replace HB := Aside0.mk (below_step HB.out hb)
  replace HT := Aside0.mk (Nat.le_trans HT.out hb.size)
  have HO44 := Aside0.mk hO44
  replace HT := Aside0.mk ht_
  replace HN := Aside0.mk (And.intro nn HN.out)
  clear ho44 hO44 nn ht_
  clear hb
  refine hK.out _ _ ⟨(blk_cell BK4.out 0).trans rfl, (blk_cell BK4.out 1).trans rfl, (blk_cell BK1.out 0).trans rfl, (blk_cell BK1.out 1).trans rfl⟩ (fun hHeld => ?_)
  clear hK K
  refine norm_ (a' := ?_) ?_ ?_
  rotate_left
  · show Act.put _ (some 69) _ = _
    simp only [Act.put, List.setIfInBounds_toArray, List.set_cons_zero, List.set_cons_succ, i64_w, i32_w]
    rfl
  refine one_ (i := 3) (N := some 70) #[true, true, true, true, false] rfl rfl (by kernel_rfl) (by decide) (fun K hK => ?_)
  refine goes_ Try.func19 (by kernel_rfl) rfl #[.agg #[.slice B26 t24.length d26, .int .i64 t25], .agg #[.slice B44 t42.length d44, .int .i64 t43]] (by rfl) rfl rfl (by (try simp only [List.map_toArray, List.map_cons, List.map_nil]); first | done | rfl) ?_
  with_reducible refine (laws_eqParty.calls k _ _ t24 t25 _ _ t42 t43 true _ (Kd.R_reads' HO26.out).2.2 (Kd.R_reads' HO26.out).2.1 (Kd.R_reads' HO44.out).2.2 (Kd.R_reads' HO44.out).2.1 A45.out).mono ?_
  rintro e W51 ⟨rfl, hb⟩
  refine ⟨_, rfl, ?_⟩
  replace HO22 := Aside0.mk (Kd.R_below HO22.out hb)
  replace HO26 := Aside0.mk (Kd.R_below HO26.out hb)
  replace HO30 := Aside0.mk (Kd.R_below HO30.out hb)
  replace HO33 := Aside0.mk (Kd.S_below HO33.out hb)
  replace HO38 := Aside0.mk (Kd.R_below HO38.out hb)
  replace HO44 := Aside0.mk (Kd.R_below HO44.out hb)
  replace BK1 := Aside0.mk (blk_below (g := gb1) (o := .cells #[.slice A0_0 l0_0.length c0_0, .int .i64 a0_1] 24 (0, 0)) BK1.out hb)
  replace BK2 := Aside0.mk (blk_below (g := gb2) (o := .cells #[.slice A1_0 l1_0.length c1_0, .bool a1_1] 42 (0, 0)) BK2.out hb)
  replace BK3 := Aside0.mk (blk_below (g := gb3) (o := .cells #[.slice B22 t19.length d22, .bool t20] 46 (0, 0)) BK3.out hb)
  replace BK4 := Aside0.mk (blk_below (g := gb4) (o := .cells #[.slice B26 t24.length d26, .int .i64 t25] 27 (0, 0)) BK4.out hb)
  replace BK5 := Aside0.mk (blk_below (g := gb5) (o := .cells #[.slice B30 t28.length d30, .bool t29] 46 (0, 0)) BK5.out hb)
  replace BK6 := Aside0.mk (blk_below (g := gb6) (o := .cells #[.slice B38 t35.length d38, .bool t36] 46 (0, 0)) BK6.out hb)
  replace HB := Aside0.mk (below_step HB.out hb)
  replace HT := Aside0.mk (Nat.le_trans HT.out hb.size)
  clear hb
  clear HO44
  refine hK.out _ _ ⟨(blk_cell BK4.out 0).trans rfl, (blk_cell BK4.out 1).trans rfl, (blk_cell BK1.out 0).trans rfl, (blk_cell BK1.out 1).trans rfl⟩ (fun hHeld => ?_)
  clear hK K
  refine norm_ (a' := ?_) ?_ ?_
  rotate_left
  · show Act.put _ (some 70) _ = _
    simp only [Act.put, List.setIfInBounds_toArray, List.set_cons_zero, List.set_cons_succ, i64_w, i32_w]
    rfl
  refine pure_ (i := 4) (N := some 71) (v := ?_) (a' := ?_) #[true, true, true, true, true] rfl rfl (by kernel_rfl) (fun _ _ _ h => h) (Or.inl ⟨by rfl, ?_⟩) ?_ ?_
  rotate_left
  · intro w'
    go_simp
    with_reducible rfl
  rotate_left
  · simp only [Act.put, List.setIfInBounds_toArray, List.set_cons_zero, List.set_cons_succ, i64_w, i32_w]
    rfl
  refine done_ (by kernel_rfl) ?_
  try go_wp2
  have hb : Below W51.heap.size W51 W51.drew := below_drew (Below.refl _ _)
  replace HO22 := Aside0.mk (Kd.R_below HO22.out hb)
  replace HO26 := Aside0.mk (Kd.R_below HO26.out hb)
  replace HO30 := Aside0.mk (Kd.R_below HO30.out hb)
  replace HO33 := Aside0.mk (Kd.S_below HO33.out hb)
  replace HO38 := Aside0.mk (Kd.R_below HO38.out hb)
  replace BK1 := Aside0.mk (blk_below (g := gb1) (o := .cells #[.slice A0_0 l0_0.length c0_0, .int .i64 a0_1] 24 (0, 0)) BK1.out hb)
  replace BK2 := Aside0.mk (blk_below (g := gb2) (o := .cells #[.slice A1_0 l1_0.length c1_0, .bool a1_1] 42 (0, 0)) BK2.out hb)
  replace BK3 := Aside0.mk (blk_below (g := gb3) (o := .cells #[.slice B22 t19.length d22, .bool t20] 46 (0, 0)) BK3.out hb)
  replace BK4 := Aside0.mk (blk_below (g := gb4) (o := .cells #[.slice B26 t24.length d26, .int .i64 t25] 27 (0, 0)) BK4.out hb)
  replace BK5 := Aside0.mk (blk_below (g := gb5) (o := .cells #[.slice B30 t28.length d30, .bool t29] 46 (0, 0)) BK5.out hb)
  replace BK6 := Aside0.mk (blk_below (g := gb6) (o := .cells #[.slice B38 t35.length d38, .bool t36] 46 (0, 0)) BK6.out hb)
  replace HB := Aside0.mk (below_step HB.out hb)
  replace HT := Aside0.mk (Nat.le_trans HT.out hb.size)
  clear hb
  refine start_ (n := 5) (S := fun w' => w'.cell? ⟨gb5, 0, none⟩ = some (.slice B30 t28.length d30) ∧ w'.cell? ⟨gb5, 1, none⟩ = some (.bool t29) ∧ w'.cell? ⟨gb2, 0, none⟩ = some (.slice A1_0 l1_0.length c1_0) ∧ w'.cell? ⟨gb2, 1, none⟩ = some (.bool a1_1)) (ds := []) #[false, false, false, false, false] (by kernel_rfl) rfl rfl ⟨(blk_cell BK5.out 0).trans rfl, (blk_cell BK5.out 1).trans rfl, (blk_cell BK2.out 0).trans rfl, (blk_cell BK2.out 1).trans rfl⟩ (fun hHeld => ?_)
  generalize W51.drew = W52 at HO22 HO26 HO30 HO33 HO38 BK1 BK2 BK3 BK4 BK5 BK6 HB HT hHeld ⊢
  refine take_ (i := 0) (N := some 72) (v := ?_) (a' := ?_) #[true, false, false, false, false] rfl rfl (by kernel_rfl) (fun _ _ _ h => h) (Or.inl ⟨by rfl, ?_⟩) hHeld ?_ ?_
  rotate_left
  · rintro w' ⟨s0, s1, s2, s3⟩
    go_simp
    with_reducible rfl
  rotate_left
  · simp only [Act.put, List.setIfInBounds_toArray, List.set_cons_zero, List.set_cons_succ, i64_w, i32_w]
    rfl
  refine take_ (i := 1) (N := some 73) (v := ?_) (a' := ?_) #[true, true, false, false, false] rfl rfl (by kernel_rfl) (fun _ _ _ h => h) (Or.inl ⟨by rfl, ?_⟩) hHeld ?_ ?_
  rotate_left
  · rintro w' ⟨s0, s1, s2, s3⟩
    go_simp
    with_reducible rfl
  rotate_left
  · simp only [Act.put, List.setIfInBounds_toArray, List.set_cons_zero, List.set_cons_succ, i64_w, i32_w]
    rfl
  refine one_ (i := 2) (N := some 74) #[true, true, true, false, false] rfl rfl (by kernel_rfl) (by decide) (fun K hK => ?_)
  refine goes_ Try.func32 (by kernel_rfl) rfl #[.agg #[.slice A1_0 l1_0.length c1_0, .bool a1_1]] (by rfl) rfl rfl (by (try simp only [List.map_toArray, List.map_cons, List.map_nil]); first | done | rfl) ?_
  with_reducible refine (laws_toState.calls k _ _ l1_0 a1_1 t48 t49 _ (Kd.C_below HR1_0.out HB.out) HC1_0.out A47.out).mono ?_
  rintro e W53 ⟨v50, rfl, ho50, hb⟩
  refine ⟨_, rfl, ?_⟩
  obtain ⟨B50, d50, e_⟩ := Kd.R_slice ho50
  subst e_
  obtain ⟨lo50, hi50, nn, ht_, hO50⟩ := laws_FnExactPlayTrips.newR ho50 HT.out (below_size HB.out) hb.size
  replace HO22 := Aside0.mk (Kd.R_below HO22.out hb)
  replace HO26 := Aside0.mk (Kd.R_below HO26.out hb)
  replace HO30 := Aside0.mk (Kd.R_below HO30.out hb)
  replace HO33 := Aside0.mk (Kd.S_below HO33.out hb)
  replace HO38 := Aside0.mk (Kd.R_below HO38.out hb)
  replace BK1 := Aside0.mk (blk_below (g := gb1) (o := .cells #[.slice A0_0 l0_0.length c0_0, .int .i64 a0_1] 24 (0, 0)) BK1.out hb)
  replace BK2 := Aside0.mk (blk_below (g := gb2) (o := .cells #[.slice A1_0 l1_0.length c1_0, .bool a1_1] 42 (0, 0)) BK2.out hb)
  replace BK3 := Aside0.mk (blk_below (g := gb3) (o := .cells #[.slice B22 t19.length d22, .bool t20] 46 (0, 0)) BK3.out hb)
  replace BK4 := Aside0.mk (blk_below (g := gb4) (o := .cells #[.slice B26 t24.length d26, .int .i64 t25] 27 (0, 0)) BK4.out hb)
  replace BK5 := Aside0.mk (blk_below (g := gb5) (o := .cells #[.slice B30 t28.length d30, .bool t29] 46 (0, 0)) BK5.out hb)
  replace BK6 := Aside0.mk (blk_below (g := gb6) (o := .cells #[.slice B38 t35.length d38, .bool t36] 46 (0, 0)) BK6.out hb)
  replace HB := Aside0.mk (below_step HB.out hb)
  replace HT := Aside0.mk (Nat.le_trans HT.out hb.size)
  have HO50 := Aside0.mk hO50
  replace HT := Aside0.mk ht_
  replace HN := Aside0.mk (And.intro nn HN.out)
  clear ho50 hO50 nn ht_
  clear hb
  refine hK.out _ _ ⟨(blk_cell BK5.out 0).trans rfl, (blk_cell BK5.out 1).trans rfl, (blk_cell BK2.out 0).trans rfl, (blk_cell BK2.out 1).trans rfl⟩ (fun hHeld => ?_)
  clear hK K
  refine norm_ (a' := ?_) ?_ ?_
  rotate_left
  · show Act.put _ (some 74) _ = _
    simp only [Act.put, List.setIfInBounds_toArray, List.set_cons_zero, List.set_cons_succ, i64_w, i32_w]
    rfl
  refine one_ (i := 3) (N := some 75) #[true, true, true, true, false] rfl rfl (by kernel_rfl) (by decide) (fun K hK => ?_)
  refine goes_ Try.func34 (by kernel_rfl) rfl #[.agg #[.slice B30 t28.length d30, .bool t29], .agg #[.slice B50 t48.length d50, .bool t49]] (by rfl) rfl rfl (by (try simp only [List.map_toArray, List.map_cons, List.map_nil]); first | done | rfl) ?_
  with_reducible refine (laws_eqState.calls k _ _ t28 t29 _ _ t48 t49 true _ (Kd.R_reads' HO30.out).2.2 (Kd.R_reads' HO30.out).2.1 (Kd.R_reads' HO50.out).2.2 (Kd.R_reads' HO50.out).2.1 A51.out).mono ?_
  rintro e W54 ⟨rfl, hb⟩
  refine ⟨_, rfl, ?_⟩
  replace HO22 := Aside0.mk (Kd.R_below HO22.out hb)
  replace HO26 := Aside0.mk (Kd.R_below HO26.out hb)
  replace HO30 := Aside0.mk (Kd.R_below HO30.out hb)
  replace HO33 := Aside0.mk (Kd.S_below HO33.out hb)
  replace HO38 := Aside0.mk (Kd.R_below HO38.out hb)
  replace HO50 := Aside0.mk (Kd.R_below HO50.out hb)
  replace BK1 := Aside0.mk (blk_below (g := gb1) (o := .cells #[.slice A0_0 l0_0.length c0_0, .int .i64 a0_1] 24 (0, 0)) BK1.out hb)
  replace BK2 := Aside0.mk (blk_below (g := gb2) (o := .cells #[.slice A1_0 l1_0.length c1_0, .bool a1_1] 42 (0, 0)) BK2.out hb)
  replace BK3 := Aside0.mk (blk_below (g := gb3) (o := .cells #[.slice B22 t19.length d22, .bool t20] 46 (0, 0)) BK3.out hb)
  replace BK4 := Aside0.mk (blk_below (g := gb4) (o := .cells #[.slice B26 t24.length d26, .int .i64 t25] 27 (0, 0)) BK4.out hb)
  replace BK5 := Aside0.mk (blk_below (g := gb5) (o := .cells #[.slice B30 t28.length d30, .bool t29] 46 (0, 0)) BK5.out hb)
  replace BK6 := Aside0.mk (blk_below (g := gb6) (o := .cells #[.slice B38 t35.length d38, .bool t36] 46 (0, 0)) BK6.out hb)
  replace HB := Aside0.mk (below_step HB.out hb)
  replace HT := Aside0.mk (Nat.le_trans HT.out hb.size)
  clear hb
  clear HO50
  refine hK.out _ _ ⟨(blk_cell BK5.out 0).trans rfl, (blk_cell BK5.out 1).trans rfl, (blk_cell BK2.out 0).trans rfl, (blk_cell BK2.out 1).trans rfl⟩ (fun hHeld => ?_)
  clear hK K
  refine norm_ (a' := ?_) ?_ ?_
  rotate_left
  · show Act.put _ (some 75) _ = _
    simp only [Act.put, List.setIfInBounds_toArray, List.set_cons_zero, List.set_cons_succ, i64_w, i32_w]
    rfl
  refine pure_ (i := 4) (N := some 76) (v := ?_) (a' := ?_) #[true, true, true, true, true] rfl rfl (by kernel_rfl) (fun _ _ _ h => h) (Or.inl ⟨by rfl, ?_⟩) ?_ ?_
  rotate_left
  · intro w'
    go_simp
    with_reducible rfl
  rotate_left
  · simp only [Act.put, List.setIfInBounds_toArray, List.set_cons_zero, List.set_cons_succ, i64_w, i32_w]
    rfl
  refine done_ (by kernel_rfl) ?_
  try go_wp2_with (first | ((with_reducible refine gate_dst (N := 79) rfl ?_); refine goesL_ (some 79) rfl rfl Try.func48 (by kernel_rfl) rfl #[.slice A2 l2.length c2] rfl (by (try simp only [List.map_toArray, List.map_cons, List.map_nil]); first | done | rfl) ?_; (with_reducible refine (laws_toIntSS.calls k _ _ l2 t54 _ (Kd.C_below HR2.out HB.out) HC2.out A53.out).mono ?_); rintro e W55 ⟨v55, rfl, ho55, hb⟩; refine ⟨_, rfl, ?_⟩; obtain ⟨B55, d55, e_⟩ := Kd.S_slice ho55; subst e_; obtain ⟨lo55, hi55, nn, ht_, hO55⟩ := laws_FnExactPlayTrips.newS ho55 HT.out (below_size HB.out) hb.size; replace HO22 := Aside0.mk (Kd.R_below HO22.out hb); replace HO26 := Aside0.mk (Kd.R_below HO26.out hb); replace HO30 := Aside0.mk (Kd.R_below HO30.out hb); replace HO33 := Aside0.mk (Kd.S_below HO33.out hb); replace HO38 := Aside0.mk (Kd.R_below HO38.out hb); replace BK1 := Aside0.mk (blk_below (g := gb1) (o := .cells #[.slice A0_0 l0_0.length c0_0, .int .i64 a0_1] 24 (0, 0)) BK1.out hb); replace BK2 := Aside0.mk (blk_below (g := gb2) (o := .cells #[.slice A1_0 l1_0.length c1_0, .bool a1_1] 42 (0, 0)) BK2.out hb); replace BK3 := Aside0.mk (blk_below (g := gb3) (o := .cells #[.slice B22 t19.length d22, .bool t20] 46 (0, 0)) BK3.out hb); replace BK4 := Aside0.mk (blk_below (g := gb4) (o := .cells #[.slice B26 t24.length d26, .int .i64 t25] 27 (0, 0)) BK4.out hb); replace BK5 := Aside0.mk (blk_below (g := gb5) (o := .cells #[.slice B30 t28.length d30, .bool t29] 46 (0, 0)) BK5.out hb); replace BK6 := Aside0.mk (blk_below (g := gb6) (o := .cells #[.slice B38 t35.length d38, .bool t36] 46 (0, 0)) BK6.out hb); replace HB := Aside0.mk (below_step HB.out hb); replace HT := Aside0.mk (Nat.le_trans HT.out hb.size); have HO55 := Aside0.mk hO55; replace HT := Aside0.mk ht_; replace HN := Aside0.mk (And.intro nn HN.out); clear ho55 hO55 nn ht_; clear hb) | ((with_reducible refine gate_dst (N := 80) rfl ?_); refine goesL_ (some 80) rfl rfl Try.func50 (by kernel_rfl) rfl #[.slice B33 t32.length d33, .slice B55 t54.length d55] rfl (by (try simp only [List.map_toArray, List.map_cons, List.map_nil]); first | done | rfl) ?_; (with_reducible refine (laws_eqIntSS.calls k _ _ t32 _ _ t54 true _ (Kd.R_reads' (Kd.S_R HO33.out)).2.2 (Kd.R_reads' (Kd.S_R HO33.out)).2.1 (Kd.R_reads' (Kd.S_R HO55.out)).2.2 (Kd.R_reads' (Kd.S_R HO55.out)).2.1 A56.out).mono ?_); rintro e W56 ⟨rfl, hd⟩; have hb := hd.below; clear hd; refine ⟨_, rfl, ?_⟩; replace HO22 := Aside0.mk (Kd.R_below HO22.out hb); replace HO26 := Aside0.mk (Kd.R_below HO26.out hb); replace HO30 := Aside0.mk (Kd.R_below HO30.out hb); replace HO33 := Aside0.mk (Kd.S_below HO33.out hb); replace HO38 := Aside0.mk (Kd.R_below HO38.out hb); replace HO55 := Aside0.mk (Kd.S_below HO55.out hb); replace BK1 := Aside0.mk (blk_below (g := gb1) (o := .cells #[.slice A0_0 l0_0.length c0_0, .int .i64 a0_1] 24 (0, 0)) BK1.out hb); replace BK2 := Aside0.mk (blk_below (g := gb2) (o := .cells #[.slice A1_0 l1_0.length c1_0, .bool a1_1] 42 (0, 0)) BK2.out hb); replace BK3 := Aside0.mk (blk_below (g := gb3) (o := .cells #[.slice B22 t19.length d22, .bool t20] 46 (0, 0)) BK3.out hb); replace BK4 := Aside0.mk (blk_below (g := gb4) (o := .cells #[.slice B26 t24.length d26, .int .i64 t25] 27 (0, 0)) BK4.out hb); replace BK5 := Aside0.mk (blk_below (g := gb5) (o := .cells #[.slice B30 t28.length d30, .bool t29] 46 (0, 0)) BK5.out hb); replace BK6 := Aside0.mk (blk_below (g := gb6) (o := .cells #[.slice B38 t35.length d38, .bool t36] 46 (0, 0)) BK6.out hb); replace HB := Aside0.mk (below_step HB.out hb); replace HT := Aside0.mk (Nat.le_trans HT.out hb.size); clear hb; clear HO55; have cz4_0 : W56.cell? ⟨gb4, 0, none⟩ = some (.slice B26 t24.length d26) := (blk_cell BK4.out 0).trans rfl; have cz4_1 : W56.cell? ⟨gb4, 1, none⟩ = some (.int .i64 t25) := (blk_cell BK4.out 1).trans rfl) | ((with_reducible refine gate_dst (N := 84) rfl ?_); refine goesL_ (some 84) rfl rfl Try.func26 (by kernel_rfl) rfl #[.agg #[.slice B26 t24.length d26, .int .i64 t25], .int .i64 1] rfl (by (try simp only [List.map_toArray, List.map_cons, List.map_nil]); first | done | rfl) ?_; (with_reducible refine (laws_markParty.calls k (fun k_ => lo26 ≤ k_ ∧ k_ < hi26) (.slice B26 t24.length d26) t24 t25 1 t59 t60 w _ HB.out HO26.out A58.out).mono ?_); rintro e W57 ⟨rfl, hy0, hb, hkp⟩; refine ⟨_, rfl, ?_⟩; replace HO22 := Aside0.mk (laws_FnExactPlayTrips.keptR HO22.out hkp (by have hn_ := HN.out; omega)); replace HO30 := Aside0.mk (laws_FnExactPlayTrips.keptR HO30.out hkp (by have hn_ := HN.out; omega)); replace HO33 := Aside0.mk (laws_FnExactPlayTrips.keptS HO33.out hkp (by have hn_ := HN.out; omega)); replace HO38 := Aside0.mk (laws_FnExactPlayTrips.keptR HO38.out hkp (by have hn_ := HN.out; omega)); replace BK1 := Aside0.mk (laws_FnExactPlayTrips.keptB BK1.out hkp (by have hn_ := HN.out; omega)); replace BK2 := Aside0.mk (laws_FnExactPlayTrips.keptB BK2.out hkp (by have hn_ := HN.out; omega)); replace BK3 := Aside0.mk (laws_FnExactPlayTrips.keptB BK3.out hkp (by have hn_ := HN.out; omega)); replace BK4 := Aside0.mk (laws_FnExactPlayTrips.keptB BK4.out hkp (by have hn_ := HN.out; omega)); replace BK5 := Aside0.mk (laws_FnExactPlayTrips.keptB BK5.out hkp (by have hn_ := HN.out; omega)); replace BK6 := Aside0.mk (laws_FnExactPlayTrips.keptB BK6.out hkp (by have hn_ := HN.out; omega)); replace HO26 := Aside0.mk (Kd.R_reok rfl hy0 (fun k_ e_ => HO26.out.1 k_ e_)); replace HB := Aside0.mk hb; replace HT := Aside0.mk (Nat.le_trans HT.out hkp.1); clear hy0 hb hkp; have hl_ := (Kd.R_reads' HO26.out).1; rw [hl_] at HO26 BK4; (try simp only [hl_]); clear hl_; clear HO26; (try clear cz4_0 cz4_1); have cz5_0 : W57.cell? ⟨gb5, 0, none⟩ = some (.slice B30 t28.length d30) := (blk_cell BK5.out 0).trans rfl; have cz5_1 : W57.cell? ⟨gb5, 1, none⟩ = some (.bool t29) := (blk_cell BK5.out 1).trans rfl) | ((with_reducible refine gate_dst (N := 87) rfl ?_); refine goesL_ (some 87) rfl rfl Try.func37 (by kernel_rfl) rfl #[.agg #[.slice B30 t28.length d30, .bool t29], .int .i64 t59] rfl (by (try simp only [List.map_toArray, List.map_cons, List.map_nil]); first | done | rfl) ?_; (with_reducible refine (laws_markState.calls k (fun k_ => lo30 ≤ k_ ∧ k_ < hi30) (.slice B30 t28.length d30) t28 t29 t59 t62 t63 w _ HB.out HO30.out A61.out).mono ?_); rintro e W58 ⟨rfl, hy0, hb, hkp⟩; refine ⟨_, rfl, ?_⟩; replace HO22 := Aside0.mk (laws_FnExactPlayTrips.keptR HO22.out hkp (by have hn_ := HN.out; omega)); replace HO33 := Aside0.mk (laws_FnExactPlayTrips.keptS HO33.out hkp (by have hn_ := HN.out; omega)); replace HO38 := Aside0.mk (laws_FnExactPlayTrips.keptR HO38.out hkp (by have hn_ := HN.out; omega)); replace BK1 := Aside0.mk (laws_FnExactPlayTrips.keptB BK1.out hkp (by have hn_ := HN.out; omega)); replace BK2 := Aside0.mk (laws_FnExactPlayTrips.keptB BK2.out hkp (by have hn_ := HN.out; omega)); replace BK3 := Aside0.mk (laws_FnExactPlayTrips.keptB BK3.out hkp (by have hn_ := HN.out; omega)); replace BK4 := Aside0.mk (laws_FnExactPlayTrips.keptB BK4.out hkp (by have hn_ := HN.out; omega)); replace BK5 := Aside0.mk (laws_FnExactPlayTrips.keptB BK5.out hkp (by have hn_ := HN.out; omega)); replace BK6 := Aside0.mk (laws_FnExactPlayTrips.keptB BK6.out hkp (by have hn_ := HN.out; omega)); replace HO30 := Aside0.mk (Kd.R_reok rfl hy0 (fun k_ e_ => HO30.out.1 k_ e_)); replace HB := Aside0.mk hb; replace HT := Aside0.mk (Nat.le_trans HT.out hkp.1); clear hy0 hb hkp; have hl_ := (Kd.R_reads' HO30.out).1; rw [hl_] at HO30 BK5; (try simp only [hl_]); clear hl_; clear HO30; (try clear cz5_0 cz5_1)) | ((with_reducible refine gate_dst (N := 90) rfl ?_); refine goesL_ (some 90) rfl rfl Try.func53 (by kernel_rfl) rfl #[.slice B33 t32.length d33, .int .i64 t62] rfl (by (try simp only [List.map_toArray, List.map_cons, List.map_nil]); first | done | rfl) ?_; (with_reducible refine (laws_markIntSS.calls k (fun k_ => lo33 ≤ k_ ∧ k_ < hi33) (.slice B33 t32.length d33) t32 t62 t65 t66 w _ HB.out HO33.out A64.out).mono ?_); rintro e W59 ⟨rfl, hy0, hb, hkp⟩; refine ⟨_, rfl, ?_⟩; replace HO22 := Aside0.mk (laws_FnExactPlayTrips.keptR HO22.out hkp (by have hn_ := HN.out; omega)); replace HO38 := Aside0.mk (laws_FnExactPlayTrips.keptR HO38.out hkp (by have hn_ := HN.out; omega)); replace BK1 := Aside0.mk (laws_FnExactPlayTrips.keptB BK1.out hkp (by have hn_ := HN.out; omega)); replace BK2 := Aside0.mk (laws_FnExactPlayTrips.keptB BK2.out hkp (by have hn_ := HN.out; omega)); replace BK3 := Aside0.mk (laws_FnExactPlayTrips.keptB BK3.out hkp (by have hn_ := HN.out; omega)); replace BK4 := Aside0.mk (laws_FnExactPlayTrips.keptB BK4.out hkp (by have hn_ := HN.out; omega)); replace BK5 := Aside0.mk (laws_FnExactPlayTrips.keptB BK5.out hkp (by have hn_ := HN.out; omega)); replace BK6 := Aside0.mk (laws_FnExactPlayTrips.keptB BK6.out hkp (by have hn_ := HN.out; omega)); replace HO33 := Aside0.mk (hy0); replace HB := Aside0.mk hb; replace HT := Aside0.mk (Nat.le_trans HT.out hkp.1); clear hy0 hb hkp; have hl_ := (Kd.R_reads' (Kd.S_R HO33.out)).1; rw [hl_] at HO33; (try simp only [hl_]); clear hl_; clear HO33; have cz6_0 : W59.cell? ⟨gb6, 0, none⟩ = some (.slice B38 t35.length d38) := (blk_cell BK6.out 0).trans rfl; have cz6_1 : W59.cell? ⟨gb6, 1, none⟩ = some (.bool t36) := (blk_cell BK6.out 1).trans rfl; have cz3_0 : W59.cell? ⟨gb3, 0, none⟩ = some (.slice B22 t19.length d22) := (blk_cell BK3.out 0).trans rfl; have cz3_1 : W59.cell? ⟨gb3, 1, none⟩ = some (.bool t20) := (blk_cell BK3.out 1).trans rfl) | ((with_reducible refine gate_dst (N := 96) rfl ?_); (refine gate_guard (by rfl) ?_; dsimp only); refine goesL_ (some 96) rfl rfl Try.func34 (by kernel_rfl) rfl #[.agg #[.slice B38 t35.length d38, .bool t36], .agg #[.slice B22 t19.length d22, .bool t20]] rfl (by (try simp only [List.map_toArray, List.map_cons, List.map_nil]); first | done | rfl) ?_; (with_reducible refine (laws_eqState.calls k _ _ t35 t36 _ _ t19 t20 true _ (Kd.R_reads' HO38.out).2.2 (Kd.R_reads' HO38.out).2.1 (Kd.R_reads' HO22.out).2.2 (Kd.R_reads' HO22.out).2.1 A67.out).mono ?_); rintro e W60 ⟨rfl, hb⟩; refine ⟨_, rfl, ?_⟩; replace HO22 := Aside0.mk (Kd.R_below HO22.out hb); replace HO38 := Aside0.mk (Kd.R_below HO38.out hb); replace BK1 := Aside0.mk (blk_below (g := gb1) (o := .cells #[.slice A0_0 l0_0.length c0_0, .int .i64 a0_1] 24 (0, 0)) BK1.out hb); replace BK2 := Aside0.mk (blk_below (g := gb2) (o := .cells #[.slice A1_0 l1_0.length c1_0, .bool a1_1] 42 (0, 0)) BK2.out hb); replace BK3 := Aside0.mk (blk_below (g := gb3) (o := .cells #[.slice B22 t19.length d22, .bool t20] 46 (0, 0)) BK3.out hb); replace BK4 := Aside0.mk (blk_below (g := gb4) (o := .cells #[.slice B26 t60.length d26, .int .i64 t25] 27 (0, 0)) BK4.out hb); replace BK5 := Aside0.mk (blk_below (g := gb5) (o := .cells #[.slice B30 t63.length d30, .bool t29] 46 (0, 0)) BK5.out hb); replace BK6 := Aside0.mk (blk_below (g := gb6) (o := .cells #[.slice B38 t35.length d38, .bool t36] 46 (0, 0)) BK6.out hb); replace HB := Aside0.mk (below_step HB.out hb); replace HT := Aside0.mk (Nat.le_trans HT.out hb.size); clear hb; (try clear cz6_0 cz6_1 cz3_0 cz3_1); have cz6_0 : W60.cell? ⟨gb6, 0, none⟩ = some (.slice B38 t35.length d38) := (blk_cell BK6.out 0).trans rfl; have cz6_1 : W60.cell? ⟨gb6, 1, none⟩ = some (.bool t36) := (blk_cell BK6.out 1).trans rfl) | ((with_reducible refine gate_dst (N := 106) rfl ?_); refine goesL_ (some 106) rfl rfl Try.func37 (by kernel_rfl) rfl #[.agg #[.slice B38 t35.length d38, .bool t36], .int .i64 1] rfl (by (try simp only [List.map_toArray, List.map_cons, List.map_nil]); first | done | rfl) ?_; (with_reducible refine (laws_markState.calls k (fun k_ => lo38 ≤ k_ ∧ k_ < hi38) (.slice B38 t35.length d38) t35 t36 1 t70 t71 w _ HB.out HO38.out A69.out).mono ?_); rintro e W61 ⟨rfl, hy0, hb, hkp⟩; refine ⟨_, rfl, ?_⟩; replace HO22 := Aside0.mk (laws_FnExactPlayTrips.keptR HO22.out hkp (by have hn_ := HN.out; omega)); replace BK1 := Aside0.mk (laws_FnExactPlayTrips.keptB BK1.out hkp (by have hn_ := HN.out; omega)); replace BK2 := Aside0.mk (laws_FnExactPlayTrips.keptB BK2.out hkp (by have hn_ := HN.out; omega)); replace BK3 := Aside0.mk (laws_FnExactPlayTrips.keptB BK3.out hkp (by have hn_ := HN.out; omega)); replace BK4 := Aside0.mk (laws_FnExactPlayTrips.keptB BK4.out hkp (by have hn_ := HN.out; omega)); replace BK5 := Aside0.mk (laws_FnExactPlayTrips.keptB BK5.out hkp (by have hn_ := HN.out; omega)); replace BK6 := Aside0.mk (laws_FnExactPlayTrips.keptB BK6.out hkp (by have hn_ := HN.out; omega)); replace HO38 := Aside0.mk (Kd.R_reok rfl hy0 (fun k_ e_ => HO38.out.1 k_ e_)); replace HB := Aside0.mk hb; replace HT := Aside0.mk (Nat.le_trans HT.out hkp.1); clear hy0 hb hkp; have hl_ := (Kd.R_reads' HO38.out).1; rw [hl_] at HO38 BK6; (try simp only [hl_]); clear hl_; (try clear cz6_0 cz6_1); have cz6_0 : W61.cell? ⟨gb6, 0, none⟩ = some (.slice B38 t71.length d38) := (blk_cell BK6.out 0).trans rfl; have cz6_1 : W61.cell? ⟨gb6, 1, none⟩ = some (.bool t36) := (blk_cell BK6.out 1).trans rfl) | ((with_reducible refine gate_dst (N := 109) rfl ?_); refine goesL_ (some 109) rfl rfl Try.func38 (by kernel_rfl) rfl #[.agg #[.slice B38 t71.length d38, .bool t36], .int .i64 1] rfl (by (try simp only [List.map_toArray, List.map_cons, List.map_nil]); first | done | rfl) ?_; (with_reducible refine (laws_heldState.calls k _ _ t71 t36 1 t73 _ (Kd.R_reads' HO38.out).2.2 (Kd.R_reads' HO38.out).2.1 A72.out).mono ?_); rintro e W62 ⟨rfl, hb⟩; refine ⟨_, rfl, ?_⟩; replace HO22 := Aside0.mk (Kd.R_below HO22.out hb); replace HO38 := Aside0.mk (Kd.R_below HO38.out hb); replace BK1 := Aside0.mk (blk_below (g := gb1) (o := .cells #[.slice A0_0 l0_0.length c0_0, .int .i64 a0_1] 24 (0, 0)) BK1.out hb); replace BK2 := Aside0.mk (blk_below (g := gb2) (o := .cells #[.slice A1_0 l1_0.length c1_0, .bool a1_1] 42 (0, 0)) BK2.out hb); replace BK3 := Aside0.mk (blk_below (g := gb3) (o := .cells #[.slice B22 t19.length d22, .bool t20] 46 (0, 0)) BK3.out hb); replace BK4 := Aside0.mk (blk_below (g := gb4) (o := .cells #[.slice B26 t60.length d26, .int .i64 t25] 27 (0, 0)) BK4.out hb); replace BK5 := Aside0.mk (blk_below (g := gb5) (o := .cells #[.slice B30 t63.length d30, .bool t29] 46 (0, 0)) BK5.out hb); replace BK6 := Aside0.mk (blk_below (g := gb6) (o := .cells #[.slice B38 t71.length d38, .bool t36] 46 (0, 0)) BK6.out hb); replace HB := Aside0.mk (below_step HB.out hb); replace HT := Aside0.mk (Nat.le_trans HT.out hb.size); clear hb; (try clear cz6_0 cz6_1)))
  have hb : Below W62.heap.size W62 W62.drew := below_drew (Below.refl _ _)
  replace HO22 := Aside0.mk (Kd.R_below HO22.out hb)
  replace HO38 := Aside0.mk (Kd.R_below HO38.out hb)
  replace BK1 := Aside0.mk (blk_below (g := gb1) (o := .cells #[.slice A0_0 l0_0.length c0_0, .int .i64 a0_1] 24 (0, 0)) BK1.out hb)
  replace BK2 := Aside0.mk (blk_below (g := gb2) (o := .cells #[.slice A1_0 l1_0.length c1_0, .bool a1_1] 42 (0, 0)) BK2.out hb)
  replace BK3 := Aside0.mk (blk_below (g := gb3) (o := .cells #[.slice B22 t19.length d22, .bool t20] 46 (0, 0)) BK3.out hb)
  replace BK4 := Aside0.mk (blk_below (g := gb4) (o := .cells #[.slice B26 t60.length d26, .int .i64 t25] 27 (0, 0)) BK4.out hb)
  replace BK5 := Aside0.mk (blk_below (g := gb5) (o := .cells #[.slice B30 t63.length d30, .bool t29] 46 (0, 0)) BK5.out hb)
  replace BK6 := Aside0.mk (blk_below (g := gb6) (o := .cells #[.slice B38 t71.length d38, .bool t36] 46 (0, 0)) BK6.out hb)
  replace HB := Aside0.mk (below_step HB.out hb)
  replace HT := Aside0.mk (Nat.le_trans HT.out hb.size)
  clear hb
  refine start_ (n := 13) (S := fun w' => w'.cell? ⟨gb1, 0, none⟩ = some (.slice A0_0 l0_0.length c0_0) ∧ w'.cell? ⟨gb1, 1, none⟩ = some (.int .i64 a0_1) ∧ w'.cell? ⟨gb2, 0, none⟩ = some (.slice A1_0 l1_0.length c1_0) ∧ w'.cell? ⟨gb2, 1, none⟩ = some (.bool a1_1)) (ds := []) #[false, false, false, false, false, false, false, false, false, false, false, false, false] (by kernel_rfl) rfl rfl ⟨(blk_cell BK1.out 0).trans rfl, (blk_cell BK1.out 1).trans rfl, (blk_cell BK2.out 0).trans rfl, (blk_cell BK2.out 1).trans rfl⟩ (fun hHeld => ?_)
  generalize W62.drew = W63 at HO22 HO38 BK1 BK2 BK3 BK4 BK5 BK6 HB HT hHeld ⊢
  refine take_ (i := 0) (N := some 116) (v := ?_) (a' := ?_) #[true, false, false, false, false, false, false, false, false, false, false, false, false] rfl rfl (by kernel_rfl) (fun _ _ _ h => h) (Or.inl ⟨by rfl, ?_⟩) hHeld ?_ ?_
  rotate_left
  · rintro w' ⟨s0, s1, s2, s3⟩
    go_simp
    with_reducible rfl
  rotate_left
  · simp only [Act.put, List.setIfInBounds_toArray, List.set_cons_zero, List.set_cons_succ, i64_w, i32_w]
    rfl
  refine take_ (i := 2) (N := some 118) (v := ?_) (a' := ?_) #[true, false, true, false, false, false, false, false, false, false, false, false, false] rfl rfl (by kernel_rfl) (fun _ _ _ h => h) (Or.inl ⟨by rfl, ?_⟩) hHeld ?_ ?_
  rotate_left
  · rintro w' ⟨s0, s1, s2, s3⟩
    go_simp
    with_reducible rfl
  rotate_left
  · simp only [Act.put, List.setIfInBounds_toArray, List.set_cons_zero, List.set_cons_succ, i64_w, i32_w]
    rfl
  refine pure_ (i := 4) (N := some 120) (v := ?_) (a' := ?_) #[true, false, true, false, true, false, false, false, false, false, false, false, false] rfl rfl (by kernel_rfl) (fun _ _ _ h => h) (Or.inl ⟨by rfl, ?_⟩) ?_ ?_
  rotate_left
  · intro w'
    go_simp
    with_reducible rfl
  rotate_left
  · simp only [Act.put, List.setIfInBounds_toArray, List.set_cons_zero, List.set_cons_succ, i64_w, i32_w]
    rfl
  refine join_ (σ := Option Addr × Nat × Option Addr × Nat × Option Addr × Nat × Option Addr × Nat × Nat) 2 #[true, true, true, true, true, true, true, true, true, true, true, false, false] (fun s => [(117, .agg #[.slice s.1 t75.length s.2.1, .int .i64 t76]), (119, .agg #[.slice s.2.2.1 t79.length s.2.2.2.1, .bool t80]), (121, .slice s.2.2.2.2.1 t83.length s.2.2.2.2.2.1), (122, .tuple #[.agg #[.slice s.2.2.2.2.2.2.1 t86.length s.2.2.2.2.2.2.2.1, .bool t87], .bool t88]), (115, .tuple #[.agg #[.slice s.2.2.2.2.2.2.1 t86.length s.2.2.2.2.2.2.2.1, .bool t87], .bool t88]), (123, .agg #[.slice s.2.2.2.2.2.2.1 t86.length s.2.2.2.2.2.2.2.1, .bool t87]), (124, .bool t88), (18, .pointer (some ⟨s.2.2.2.2.2.2.2.2, 0, none⟩))]) (fun s w' => ∃ lo89 hi89 T_ : Nat, Aside0 (Kd.R Kd.bool 4 w' w.heap.size (fun k_ => lo22 ≤ k_ ∧ k_ < hi22) (.slice B22 t19.length d22) t19) ∧ Aside0 (Kd.R Kd.bool 4 w' w.heap.size (fun k_ => lo38 ≤ k_ ∧ k_ < hi38) (.slice B38 t71.length d38) t71) ∧ Aside0 (Kd.R Kd.bool 4 w' w.heap.size (fun k_ => lo89 ≤ k_ ∧ k_ < hi89) (.slice s.2.2.2.2.2.2.1 t86.length s.2.2.2.2.2.2.2.1) t86) ∧ Aside0 (w'.heap[gb1]? = some (.cells #[.slice A0_0 l0_0.length c0_0, .int .i64 a0_1] 24 (0, 0))) ∧ Aside0 (w'.heap[gb2]? = some (.cells #[.slice A1_0 l1_0.length c1_0, .bool a1_1] 42 (0, 0))) ∧ Aside0 (w'.heap[gb3]? = some (.cells #[.slice B22 t19.length d22, .bool t20] 46 (0, 0))) ∧ Aside0 (w'.heap[gb4]? = some (.cells #[.slice B26 t60.length d26, .int .i64 t25] 27 (0, 0))) ∧ Aside0 (w'.heap[gb5]? = some (.cells #[.slice B30 t63.length d30, .bool t29] 46 (0, 0))) ∧ Aside0 (w'.heap[gb6]? = some (.cells #[.slice B38 t71.length d38, .bool t36] 46 (0, 0))) ∧ Aside0 (w'.heap[s.2.2.2.2.2.2.2.2]? = some (.cells #[.slice none 0 0, .bool false] 46 (0, 0))) ∧ Aside0 (Below w.heap.size w w') ∧ Aside0 (T_ ≤ w'.heap.size) ∧ Aside0 (w.heap.size ≤ s.2.2.2.2.2.2.2.2) ∧ Aside0 (hi55 ≤ s.2.2.2.2.2.2.2.2 ∧ s.2.2.2.2.2.2.2.2 < T_ ∧ hi55 ≤ lo89 ∧ lo89 ≤ hi89 ∧ hi89 ≤ T_ ∧ (s.2.2.2.2.2.2.2.2 < lo89 ∨ hi89 ≤ s.2.2.2.2.2.2.2.2))) ?_ ?_
  rotate_left
  · intro hJ4
    refine join_ (σ := Option Addr × Nat × Option Addr × Nat × Option Addr × Nat × Nat) 6 #[true, true, true, true, true, true, false, false, false, false, true, false, false] (fun s => [(117, .agg #[.slice s.1 t75.length s.2.1, .int .i64 t76]), (119, .agg #[.slice s.2.2.1 t79.length s.2.2.2.1, .bool t80]), (121, .slice s.2.2.2.2.1 t83.length s.2.2.2.2.2.1), (18, .pointer (some ⟨s.2.2.2.2.2.2, 0, none⟩))]) (fun s w' => ∃ lo77 hi77 lo81 hi81 lo84 hi84 T_ : Nat, Aside0 (Kd.R Kd.bool 4 w' w.heap.size (fun k_ => lo22 ≤ k_ ∧ k_ < hi22) (.slice B22 t19.length d22) t19) ∧ Aside0 (Kd.R Kd.bool 4 w' w.heap.size (fun k_ => lo38 ≤ k_ ∧ k_ < hi38) (.slice B38 t71.length d38) t71) ∧ Aside0 (Kd.R (Kd.int .i64) 3 w' w.heap.size (fun k_ => lo77 ≤ k_ ∧ k_ < hi77) (.slice s.1 t75.length s.2.1) t75) ∧ Aside0 (Kd.R Kd.bool 4 w' w.heap.size (fun k_ => lo81 ≤ k_ ∧ k_ < hi81) (.slice s.2.2.1 t79.length s.2.2.2.1) t79) ∧ Aside0 (Kd.S (Kd.slice 3 (Kd.int .i64)) 22 w' w.heap.size (fun k_ => lo84 ≤ k_ ∧ k_ < hi84) (.slice s.2.2.2.2.1 t83.length s.2.2.2.2.2.1) t83) ∧ Aside0 (w'.heap[gb1]? = some (.cells #[.slice A0_0 l0_0.length c0_0, .int .i64 a0_1] 24 (0, 0))) ∧ Aside0 (w'.heap[gb2]? = some (.cells #[.slice A1_0 l1_0.length c1_0, .bool a1_1] 42 (0, 0))) ∧ Aside0 (w'.heap[gb3]? = some (.cells #[.slice B22 t19.length d22, .bool t20] 46 (0, 0))) ∧ Aside0 (w'.heap[gb4]? = some (.cells #[.slice B26 t60.length d26, .int .i64 t25] 27 (0, 0))) ∧ Aside0 (w'.heap[gb5]? = some (.cells #[.slice B30 t63.length d30, .bool t29] 46 (0, 0))) ∧ Aside0 (w'.heap[gb6]? = some (.cells #[.slice B38 t71.length d38, .bool t36] 46 (0, 0))) ∧ Aside0 (w'.heap[s.2.2.2.2.2.2]? = some (.cells #[.slice none 0 0, .bool false] 46 (0, 0))) ∧ Aside0 (Below w.heap.size w w') ∧ Aside0 (T_ ≤ w'.heap.size) ∧ Aside0 (w.heap.size ≤ s.2.2.2.2.2.2) ∧ Aside0 (hi55 ≤ s.2.2.2.2.2.2 ∧ s.2.2.2.2.2.2 < T_ ∧ hi55 ≤ lo77 ∧ lo77 ≤ hi77 ∧ hi77 ≤ T_ ∧ (s.2.2.2.2.2.2 < lo77 ∨ hi77 ≤ s.2.2.2.2.2.2) ∧ hi55 ≤ lo81 ∧ lo81 ≤ hi81 ∧ hi81 ≤ T_ ∧ (s.2.2.2.2.2.2 < lo81 ∨ hi81 ≤ s.2.2.2.2.2.2) ∧ hi55 ≤ lo84 ∧ lo84 ≤ hi84 ∧ hi84 ≤ T_ ∧ (s.2.2.2.2.2.2 < lo84 ∨ hi84 ≤ s.2.2.2.2.2.2) ∧ hi77 ≤ lo81 ∧ hi77 ≤ lo84 ∧ hi81 ≤ lo84)) ?_ ?_
    rotate_left
    · intro hJ3
      refine join_ (σ := Option Addr × Nat × Option Addr × Nat × Nat) 7 #[true, true, true, true, true, false, false, false, false, false, true, false, false] (fun s => [(117, .agg #[.slice s.1 t75.length s.2.1, .int .i64 t76]), (119, .agg #[.slice s.2.2.1 t79.length s.2.2.2.1, .bool t80]), (18, .pointer (some ⟨s.2.2.2.2, 0, none⟩))]) (fun s w' => ∃ lo77 hi77 lo81 hi81 T_ : Nat, Aside0 (Kd.R Kd.bool 4 w' w.heap.size (fun k_ => lo22 ≤ k_ ∧ k_ < hi22) (.slice B22 t19.length d22) t19) ∧ Aside0 (Kd.R Kd.bool 4 w' w.heap.size (fun k_ => lo38 ≤ k_ ∧ k_ < hi38) (.slice B38 t71.length d38) t71) ∧ Aside0 (Kd.R (Kd.int .i64) 3 w' w.heap.size (fun k_ => lo77 ≤ k_ ∧ k_ < hi77) (.slice s.1 t75.length s.2.1) t75) ∧ Aside0 (Kd.R Kd.bool 4 w' w.heap.size (fun k_ => lo81 ≤ k_ ∧ k_ < hi81) (.slice s.2.2.1 t79.length s.2.2.2.1) t79) ∧ Aside0 (w'.heap[gb1]? = some (.cells #[.slice A0_0 l0_0.length c0_0, .int .i64 a0_1] 24 (0, 0))) ∧ Aside0 (w'.heap[gb2]? = some (.cells #[.slice A1_0 l1_0.length c1_0, .bool a1_1] 42 (0, 0))) ∧ Aside0 (w'.heap[gb3]? = some (.cells #[.slice B22 t19.length d22, .bool t20] 46 (0, 0))) ∧ Aside0 (w'.heap[gb4]? = some (.cells #[.slice B26 t60.length d26, .int .i64 t25] 27 (0, 0))) ∧ Aside0 (w'.heap[gb5]? = some (.cells #[.slice B30 t63.length d30, .bool t29] 46 (0, 0))) ∧ Aside0 (w'.heap[gb6]? = some (.cells #[.slice B38 t71.length d38, .bool t36] 46 (0, 0))) ∧ Aside0 (w'.heap[s.2.2.2.2]? = some (.cells #[.slice none 0 0, .bool false] 46 (0, 0))) ∧ Aside0 (Below w.heap.size w w') ∧ Aside0 (T_ ≤ w'.heap.size) ∧ Aside0 (w.heap.size ≤ s.2.2.2.2) ∧ Aside0 (hi55 ≤ s.2.2.2.2 ∧ s.2.2.2.2 < T_ ∧ hi55 ≤ lo77 ∧ lo77 ≤ hi77 ∧ hi77 ≤ T_ ∧ (s.2.2.2.2 < lo77 ∨ hi77 ≤ s.2.2.2.2) ∧ hi55 ≤ lo81 ∧ lo81 ≤ hi81 ∧ hi81 ≤ T_ ∧ (s.2.2.2.2 < lo81 ∨ hi81 ≤ s.2.2.2.2) ∧ hi77 ≤ lo81)) ?_ ?_
      rotate_left
      · intro hJ2
        refine join_ (σ := Option Addr × Nat × Nat) 8 #[true, true, true, false, true, false, false, false, false, false, true, false, false] (fun s => [(117, .agg #[.slice s.1 t75.length s.2.1, .int .i64 t76]), (18, .pointer (some ⟨s.2.2, 0, none⟩))]) (fun s w' => ∃ lo77 hi77 T_ : Nat, Aside0 (Kd.R Kd.bool 4 w' w.heap.size (fun k_ => lo22 ≤ k_ ∧ k_ < hi22) (.slice B22 t19.length d22) t19) ∧ Aside0 (Kd.R Kd.bool 4 w' w.heap.size (fun k_ => lo38 ≤ k_ ∧ k_ < hi38) (.slice B38 t71.length d38) t71) ∧ Aside0 (Kd.R (Kd.int .i64) 3 w' w.heap.size (fun k_ => lo77 ≤ k_ ∧ k_ < hi77) (.slice s.1 t75.length s.2.1) t75) ∧ Aside0 (w'.heap[gb1]? = some (.cells #[.slice A0_0 l0_0.length c0_0, .int .i64 a0_1] 24 (0, 0))) ∧ Aside0 (w'.heap[gb2]? = some (.cells #[.slice A1_0 l1_0.length c1_0, .bool a1_1] 42 (0, 0))) ∧ Aside0 (w'.heap[gb3]? = some (.cells #[.slice B22 t19.length d22, .bool t20] 46 (0, 0))) ∧ Aside0 (w'.heap[gb4]? = some (.cells #[.slice B26 t60.length d26, .int .i64 t25] 27 (0, 0))) ∧ Aside0 (w'.heap[gb5]? = some (.cells #[.slice B30 t63.length d30, .bool t29] 46 (0, 0))) ∧ Aside0 (w'.heap[gb6]? = some (.cells #[.slice B38 t71.length d38, .bool t36] 46 (0, 0))) ∧ Aside0 (w'.heap[s.2.2]? = some (.cells #[.slice none 0 0, .bool false] 46 (0, 0))) ∧ Aside0 (Below w.heap.size w w') ∧ Aside0 (T_ ≤ w'.heap.size) ∧ Aside0 (w.heap.size ≤ s.2.2) ∧ Aside0 (hi55 ≤ s.2.2 ∧ s.2.2 < T_ ∧ hi55 ≤ lo77 ∧ lo77 ≤ hi77 ∧ hi77 ≤ T_ ∧ (s.2.2 < lo77 ∨ hi77 ≤ s.2.2))) ?_ ?_
        rotate_left
        · intro hJ1
          refine join_ (σ := Nat) 9 #[true, false, true, false, true, false, false, false, false, false, true, false, false] (fun s => [(18, .pointer (some ⟨s, 0, none⟩))]) (fun s w' => ∃ T_ : Nat, Aside0 (Kd.R Kd.bool 4 w' w.heap.size (fun k_ => lo22 ≤ k_ ∧ k_ < hi22) (.slice B22 t19.length d22) t19) ∧ Aside0 (Kd.R Kd.bool 4 w' w.heap.size (fun k_ => lo38 ≤ k_ ∧ k_ < hi38) (.slice B38 t71.length d38) t71) ∧ Aside0 (w'.heap[gb1]? = some (.cells #[.slice A0_0 l0_0.length c0_0, .int .i64 a0_1] 24 (0, 0))) ∧ Aside0 (w'.heap[gb2]? = some (.cells #[.slice A1_0 l1_0.length c1_0, .bool a1_1] 42 (0, 0))) ∧ Aside0 (w'.heap[gb3]? = some (.cells #[.slice B22 t19.length d22, .bool t20] 46 (0, 0))) ∧ Aside0 (w'.heap[gb4]? = some (.cells #[.slice B26 t60.length d26, .int .i64 t25] 27 (0, 0))) ∧ Aside0 (w'.heap[gb5]? = some (.cells #[.slice B30 t63.length d30, .bool t29] 46 (0, 0))) ∧ Aside0 (w'.heap[gb6]? = some (.cells #[.slice B38 t71.length d38, .bool t36] 46 (0, 0))) ∧ Aside0 (w'.heap[s]? = some (.cells #[.slice none 0 0, .bool false] 46 (0, 0))) ∧ Aside0 (Below w.heap.size w w') ∧ Aside0 (T_ ≤ w'.heap.size) ∧ Aside0 (w.heap.size ≤ s) ∧ Aside0 (hi55 ≤ s ∧ s < T_)) ?_ ?_
          rotate_left
          · intro hJ0
            refine two_ (i := 1) (j := 10) (Ni := some 117) (Nj := some 18) #[true, true, true, false, true, false, false, false, false, false, false, false, false] #[true, false, true, false, true, false, false, false, false, false, true, false, false] rfl rfl rfl rfl (by kernel_rfl) (by decide) (by decide) (fun K hK => ?_) (fun K hK => ?_)
            · skip
              refine goes_ Try.func17 (by kernel_rfl) rfl #[.agg #[.slice A0_0 l0_0.length c0_0, .int .i64 a0_1]] (by rfl) rfl rfl (by (try simp only [List.map_toArray, List.map_cons, List.map_nil]); first | done | rfl) ?_
              with_reducible refine (laws_toParty.calls k _ _ l0_0 a0_1 t75 t76 _ (Kd.C_below HR0_0.out HB.out) HC0_0.out A74.out).mono ?_
              rintro e W64 ⟨v77, rfl, ho77, hb⟩
              refine ⟨_, rfl, ?_⟩
              obtain ⟨B77, d77, e_⟩ := Kd.R_slice ho77
              subst e_
              obtain ⟨lo77, hi77, nn, ht_, hO77⟩ := laws_FnExactPlayTrips.newR ho77 HT.out (below_size HB.out) hb.size
              replace HO22 := Aside0.mk (Kd.R_below HO22.out hb)
              replace HO38 := Aside0.mk (Kd.R_below HO38.out hb)
              replace BK1 := Aside0.mk (blk_below (g := gb1) (o := .cells #[.slice A0_0 l0_0.length c0_0, .int .i64 a0_1] 24 (0, 0)) BK1.out hb)
              replace BK2 := Aside0.mk (blk_below (g := gb2) (o := .cells #[.slice A1_0 l1_0.length c1_0, .bool a1_1] 42 (0, 0)) BK2.out hb)
              replace BK3 := Aside0.mk (blk_below (g := gb3) (o := .cells #[.slice B22 t19.length d22, .bool t20] 46 (0, 0)) BK3.out hb)
              replace BK4 := Aside0.mk (blk_below (g := gb4) (o := .cells #[.slice B26 t60.length d26, .int .i64 t25] 27 (0, 0)) BK4.out hb)
              replace BK5 := Aside0.mk (blk_below (g := gb5) (o := .cells #[.slice B30 t63.length d30, .bool t29] 46 (0, 0)) BK5.out hb)
              replace BK6 := Aside0.mk (blk_below (g := gb6) (o := .cells #[.slice B38 t71.length d38, .bool t36] 46 (0, 0)) BK6.out hb)
              replace HB := Aside0.mk (below_step HB.out hb)
              replace HT := Aside0.mk (Nat.le_trans HT.out hb.size)
              have HO77 := Aside0.mk hO77
              replace HT := Aside0.mk ht_
              replace HN := Aside0.mk (And.intro nn HN.out)
              clear ho77 hO77 nn ht_
              clear hb
              refine hK.out _ _ ⟨(blk_cell BK1.out 0).trans rfl, (blk_cell BK1.out 1).trans rfl, (blk_cell BK2.out 0).trans rfl, (blk_cell BK2.out 1).trans rfl⟩ (fun hHeld => ?_)
              clear hK K
              refine norm_ (a' := ?_) ?_ ?_
              rotate_left
              · show Act.put _ (some 117) _ = _
                simp only [Act.put, List.setIfInBounds_toArray, List.set_cons_zero, List.set_cons_succ, i64_w, i32_w]
                rfl
              refine two_ (i := 3) (j := 10) (Ni := some 119) (Nj := some 18) #[true, true, true, true, true, false, false, false, false, false, false, false, false] #[true, true, true, false, true, false, false, false, false, false, true, false, false] rfl rfl rfl rfl (by kernel_rfl) (by decide) (by decide) (fun K hK => ?_) (fun K hK => ?_)
              · skip
                refine goes_ Try.func32 (by kernel_rfl) rfl #[.agg #[.slice A1_0 l1_0.length c1_0, .bool a1_1]] (by rfl) rfl rfl (by (try simp only [List.map_toArray, List.map_cons, List.map_nil]); first | done | rfl) ?_
                with_reducible refine (laws_toState.calls k _ _ l1_0 a1_1 t79 t80 _ (Kd.C_below HR1_0.out HB.out) HC1_0.out A78.out).mono ?_
                rintro e W65 ⟨v81, rfl, ho81, hb⟩
                refine ⟨_, rfl, ?_⟩
                obtain ⟨B81, d81, e_⟩ := Kd.R_slice ho81
                subst e_
                obtain ⟨lo81, hi81, nn, ht_, hO81⟩ := laws_FnExactPlayTrips.newR ho81 HT.out (below_size HB.out) hb.size
                replace HO22 := Aside0.mk (Kd.R_below HO22.out hb)
                replace HO38 := Aside0.mk (Kd.R_below HO38.out hb)
                replace HO77 := Aside0.mk (Kd.R_below HO77.out hb)
                replace BK1 := Aside0.mk (blk_below (g := gb1) (o := .cells #[.slice A0_0 l0_0.length c0_0, .int .i64 a0_1] 24 (0, 0)) BK1.out hb)
                replace BK2 := Aside0.mk (blk_below (g := gb2) (o := .cells #[.slice A1_0 l1_0.length c1_0, .bool a1_1] 42 (0, 0)) BK2.out hb)
                replace BK3 := Aside0.mk (blk_below (g := gb3) (o := .cells #[.slice B22 t19.length d22, .bool t20] 46 (0, 0)) BK3.out hb)
                replace BK4 := Aside0.mk (blk_below (g := gb4) (o := .cells #[.slice B26 t60.length d26, .int .i64 t25] 27 (0, 0)) BK4.out hb)
                replace BK5 := Aside0.mk (blk_below (g := gb5) (o := .cells #[.slice B30 t63.length d30, .bool t29] 46 (0, 0)) BK5.out hb)
                replace BK6 := Aside0.mk (blk_below (g := gb6) (o := .cells #[.slice B38 t71.length d38, .bool t36] 46 (0, 0)) BK6.out hb)
                replace HB := Aside0.mk (below_step HB.out hb)
                replace HT := Aside0.mk (Nat.le_trans HT.out hb.size)
                have HO81 := Aside0.mk hO81
                replace HT := Aside0.mk ht_
                replace HN := Aside0.mk (And.intro nn HN.out)
                clear ho81 hO81 nn ht_
                clear hb
                refine hK.out _ _ ⟨(blk_cell BK1.out 0).trans rfl, (blk_cell BK1.out 1).trans rfl, (blk_cell BK2.out 0).trans rfl, (blk_cell BK2.out 1).trans rfl⟩ (fun hHeld => ?_)
                clear hK K
                refine norm_ (a' := ?_) ?_ ?_
                rotate_left
                · show Act.put _ (some 119) _ = _
                  simp only [Act.put, List.setIfInBounds_toArray, List.set_cons_zero, List.set_cons_succ, i64_w, i32_w]
                  rfl
                refine two_ (i := 5) (j := 10) (Ni := some 121) (Nj := some 18) #[true, true, true, true, true, true, false, false, false, false, false, false, false] #[true, true, true, true, true, false, false, false, false, false, true, false, false] rfl rfl rfl rfl (by kernel_rfl) (by decide) (by decide) (fun K hK => ?_) (fun K hK => ?_)
                · skip
                  refine goes_ Try.func48 (by kernel_rfl) rfl #[.slice A2 l2.length c2] (by rfl) rfl rfl (by (try simp only [List.map_toArray, List.map_cons, List.map_nil]); first | done | rfl) ?_
                  with_reducible refine (laws_toIntSS.calls k _ _ l2 t83 _ (Kd.C_below HR2.out HB.out) HC2.out A82.out).mono ?_
                  rintro e W66 ⟨v84, rfl, ho84, hb⟩
                  refine ⟨_, rfl, ?_⟩
                  obtain ⟨B84, d84, e_⟩ := Kd.S_slice ho84
                  subst e_
                  obtain ⟨lo84, hi84, nn, ht_, hO84⟩ := laws_FnExactPlayTrips.newS ho84 HT.out (below_size HB.out) hb.size
                  replace HO22 := Aside0.mk (Kd.R_below HO22.out hb)
                  replace HO38 := Aside0.mk (Kd.R_below HO38.out hb)
                  replace HO77 := Aside0.mk (Kd.R_below HO77.out hb)
                  replace HO81 := Aside0.mk (Kd.R_below HO81.out hb)
                  replace BK1 := Aside0.mk (blk_below (g := gb1) (o := .cells #[.slice A0_0 l0_0.length c0_0, .int .i64 a0_1] 24 (0, 0)) BK1.out hb)
                  replace BK2 := Aside0.mk (blk_below (g := gb2) (o := .cells #[.slice A1_0 l1_0.length c1_0, .bool a1_1] 42 (0, 0)) BK2.out hb)
                  replace BK3 := Aside0.mk (blk_below (g := gb3) (o := .cells #[.slice B22 t19.length d22, .bool t20] 46 (0, 0)) BK3.out hb)
                  replace BK4 := Aside0.mk (blk_below (g := gb4) (o := .cells #[.slice B26 t60.length d26, .int .i64 t25] 27 (0, 0)) BK4.out hb)
                  replace BK5 := Aside0.mk (blk_below (g := gb5) (o := .cells #[.slice B30 t63.length d30, .bool t29] 46 (0, 0)) BK5.out hb)
                  replace BK6 := Aside0.mk (blk_below (g := gb6) (o := .cells #[.slice B38 t71.length d38, .bool t36] 46 (0, 0)) BK6.out hb)
                  replace HB := Aside0.mk (below_step HB.out hb)
                  replace HT := Aside0.mk (Nat.le_trans HT.out hb.size)
                  have HO84 := Aside0.mk hO84
                  replace HT := Aside0.mk ht_
                  replace HN := Aside0.mk (And.intro nn HN.out)
                  clear ho84 hO84 nn ht_
                  clear hb
                  refine hK.out _ _ ⟨(blk_cell BK1.out 0).trans rfl, (blk_cell BK1.out 1).trans rfl, (blk_cell BK2.out 0).trans rfl, (blk_cell BK2.out 1).trans rfl⟩ (fun hHeld => ?_)
                  clear hK K
                  refine norm_ (a' := ?_) ?_ ?_
                  rotate_left
                  · show Act.put _ (some 121) _ = _
                    simp only [Act.put, List.setIfInBounds_toArray, List.set_cons_zero, List.set_cons_succ, i64_w, i32_w]
                    rfl
                  refine two_ (i := 6) (j := 10) (Ni := some 122) (Nj := some 18) #[true, true, true, true, true, true, true, false, false, false, false, false, false] #[true, true, true, true, true, true, false, false, false, false, true, false, false] rfl rfl rfl rfl (by kernel_rfl) (by decide) (by decide) (fun K hK => ?_) (fun K hK => ?_)
                  · skip
                    refine goes_ Try.func52 (by kernel_rfl) rfl #[.agg #[.slice B77 t75.length d77, .int .i64 t76], .agg #[.slice B81 t79.length d81, .bool t80], .slice B84 t83.length d84] (by rfl) rfl rfl (by (try simp only [List.map_toArray, List.map_cons, List.map_nil]); first | done | rfl) ?_
                    with_reducible refine (impl_PlayTrips.calls k _ _ t75 t76 (fun _ => True) _ _ t79 t80 _ _ t83 t86 t87 t88 _ (Kd.R_reads' HO77.out).2.2 (Kd.R_reads' HO77.out).2.1 (Kd.V_mono (Kd.R_V (Kd.R_lower HO81.out (Nat.le_refl _))) (fun _ _ => trivial)) (Kd.R_reads' (Kd.S_R HO84.out)).2.2 (Kd.R_reads' (Kd.S_R HO84.out)).2.1 A85.out).mono ?_
                    rintro e W67 ⟨v89, rfl, ho89, hb⟩
                    refine ⟨_, rfl, ?_⟩
                    obtain ⟨B89, d89, e_⟩ := Kd.R_slice ho89
                    subst e_
                    obtain ⟨lo89, hi89, nn, ht_, hO89⟩ := laws_FnExactPlayTrips.newR ho89 HT.out (below_size HB.out) hb.size
                    replace HO22 := Aside0.mk (Kd.R_below HO22.out hb)
                    replace HO38 := Aside0.mk (Kd.R_below HO38.out hb)
                    replace HO77 := Aside0.mk (Kd.R_below HO77.out hb)
                    replace HO81 := Aside0.mk (Kd.R_below HO81.out hb)
                    replace HO84 := Aside0.mk (Kd.S_below HO84.out hb)
                    replace BK1 := Aside0.mk (blk_below (g := gb1) (o := .cells #[.slice A0_0 l0_0.length c0_0, .int .i64 a0_1] 24 (0, 0)) BK1.out hb)
                    replace BK2 := Aside0.mk (blk_below (g := gb2) (o := .cells #[.slice A1_0 l1_0.length c1_0, .bool a1_1] 42 (0, 0)) BK2.out hb)
                    replace BK3 := Aside0.mk (blk_below (g := gb3) (o := .cells #[.slice B22 t19.length d22, .bool t20] 46 (0, 0)) BK3.out hb)
                    replace BK4 := Aside0.mk (blk_below (g := gb4) (o := .cells #[.slice B26 t60.length d26, .int .i64 t25] 27 (0, 0)) BK4.out hb)
                    replace BK5 := Aside0.mk (blk_below (g := gb5) (o := .cells #[.slice B30 t63.length d30, .bool t29] 46 (0, 0)) BK5.out hb)
                    replace BK6 := Aside0.mk (blk_below (g := gb6) (o := .cells #[.slice B38 t71.length d38, .bool t36] 46 (0, 0)) BK6.out hb)
                    replace HB := Aside0.mk (below_step HB.out hb)
                    replace HT := Aside0.mk (Nat.le_trans HT.out hb.size)
                    have HO89 := Aside0.mk hO89
                    replace HT := Aside0.mk ht_
                    replace HN := Aside0.mk (And.intro nn HN.out)
                    clear ho89 hO89 nn ht_
                    clear hb
                    clear HO77 HO81 HO84
                    refine hK.out _ _ ⟨(blk_cell BK1.out 0).trans rfl, (blk_cell BK1.out 1).trans rfl, (blk_cell BK2.out 0).trans rfl, (blk_cell BK2.out 1).trans rfl⟩ (fun hHeld => ?_)
                    clear hK K
                    refine norm_ (a' := ?_) ?_ ?_
                    rotate_left
                    · show Act.put _ (some 122) _ = _
                      simp only [Act.put, List.setIfInBounds_toArray, List.set_cons_zero, List.set_cons_succ, i64_w, i32_w]
                      rfl
                    refine pure_ (i := 7) (N := some 115) (v := ?_) (a' := ?_) #[true, true, true, true, true, true, true, true, false, false, false, false, false] rfl rfl (by kernel_rfl) (fun _ _ _ h => h) (Or.inl ⟨by rfl, ?_⟩) ?_ ?_
                    rotate_left
                    · intro w'
                      go_simp
                      with_reducible rfl
                    rotate_left
                    · simp only [Act.put, List.setIfInBounds_toArray, List.set_cons_zero, List.set_cons_succ, i64_w, i32_w]
                      rfl
                    refine pure_ (i := 8) (N := some 123) (v := ?_) (a' := ?_) #[true, true, true, true, true, true, true, true, true, false, false, false, false] rfl rfl (by kernel_rfl) (fun _ _ _ h => h) (Or.inl ⟨by rfl, ?_⟩) ?_ ?_
                    rotate_left
                    · intro w'
                      go_simp
                      with_reducible rfl
                    rotate_left
                    · simp only [Act.put, List.setIfInBounds_toArray, List.set_cons_zero, List.set_cons_succ, i64_w, i32_w]
                      rfl
                    refine pure_ (i := 9) (N := some 124) (v := ?_) (a' := ?_) #[true, true, true, true, true, true, true, true, true, true, false, false, false] rfl rfl (by kernel_rfl) (fun _ _ _ h => h) (Or.inl ⟨by rfl, ?_⟩) ?_ ?_
                    rotate_left
                    · intro w'
                      go_simp
                      with_reducible rfl
                    rotate_left
                    · simp only [Act.put, List.setIfInBounds_toArray, List.set_cons_zero, List.set_cons_succ, i64_w, i32_w]
                      rfl
                    refine one_ (i := 10) (N := some 18) #[true, true, true, true, true, true, true, true, true, true, true, false, false] rfl rfl (by kernel_rfl) (by decide) (fun K hK => ?_)
                    refine box_step (by rfl) (N := 18) rfl (cs := #[.slice none 0 0, .bool false]) (t := 46) ?hr ?_
                    (case hr => first | (go_simp; done) | (go_simp; rfl))
                    intro gb7 hg W68 hbox hb
                    have nn : hi89 ≤ gb7 := Nat.le_trans HT.out (Nat.le_of_eq hg.symm)
                    have GE7 := Aside0.mk (Nat.le_trans (below_size HB.out) (Nat.le_of_eq hg.symm))
                    replace HO22 := Aside0.mk (Kd.R_below HO22.out hb)
                    replace HO38 := Aside0.mk (Kd.R_below HO38.out hb)
                    replace HO89 := Aside0.mk (Kd.R_below HO89.out hb)
                    replace BK1 := Aside0.mk (blk_below (g := gb1) (o := .cells #[.slice A0_0 l0_0.length c0_0, .int .i64 a0_1] 24 (0, 0)) BK1.out hb)
                    replace BK2 := Aside0.mk (blk_below (g := gb2) (o := .cells #[.slice A1_0 l1_0.length c1_0, .bool a1_1] 42 (0, 0)) BK2.out hb)
                    replace BK3 := Aside0.mk (blk_below (g := gb3) (o := .cells #[.slice B22 t19.length d22, .bool t20] 46 (0, 0)) BK3.out hb)
                    replace BK4 := Aside0.mk (blk_below (g := gb4) (o := .cells #[.slice B26 t60.length d26, .int .i64 t25] 27 (0, 0)) BK4.out hb)
                    replace BK5 := Aside0.mk (blk_below (g := gb5) (o := .cells #[.slice B30 t63.length d30, .bool t29] 46 (0, 0)) BK5.out hb)
                    replace BK6 := Aside0.mk (blk_below (g := gb6) (o := .cells #[.slice B38 t71.length d38, .bool t36] 46 (0, 0)) BK6.out hb)
                    replace HB := Aside0.mk (below_step HB.out hb)
                    replace HT := Aside0.mk (Nat.le_trans HT.out hb.size)
                    have BK7 := Aside0.mk hbox
                    replace HT := Aside0.mk (Nat.succ_le_of_lt (blk_lt hbox))
                    replace HN := Aside0.mk (And.intro nn HN.out)
                    clear hg hbox hb nn
                    refine hK.out _ _ ⟨(blk_cell BK1.out 0).trans rfl, (blk_cell BK1.out 1).trans rfl, (blk_cell BK2.out 0).trans rfl, (blk_cell BK2.out 1).trans rfl⟩ (fun hHeld => ?_)
                    clear hK K
                    refine norm_ (a' := ?_) ?_ ?_
                    rotate_left
                    · show Act.put _ (some 18) _ = _
                      simp only [Act.put, List.setIfInBounds_toArray, List.set_cons_zero, List.set_cons_succ, i64_w, i32_w]
                      rfl
                    exact norm_ (by first | (simp only [putAll, Act.put, List.setIfInBounds_toArray, List.set_cons_zero, List.set_cons_succ]; done) | (simp only [putAll, Act.put, List.setIfInBounds_toArray, List.set_cons_zero, List.set_cons_succ]; rfl)) (hJ4 (B77, d77, B81, d81, B84, d84, B89, d89, gb7) _ ⟨lo89, hi89, gb7.succ, HO22, HO38, HO89, BK1, BK2, BK3, BK4, BK5, BK6, BK7, HB, HT, GE7, ⟨by have hn_ := HN.out; (try dsimp only); omega⟩⟩)
                  · skip
                    refine box_step (by rfl) (N := 18) rfl (cs := #[.slice none 0 0, .bool false]) (t := 46) ?hr ?_
                    (case hr => first | (go_simp; done) | (go_simp; rfl))
                    intro gb7 hg W69 hbox hb
                    have nn : hi84 ≤ gb7 := Nat.le_trans HT.out (Nat.le_of_eq hg.symm)
                    have GE7 := Aside0.mk (Nat.le_trans (below_size HB.out) (Nat.le_of_eq hg.symm))
                    replace HO22 := Aside0.mk (Kd.R_below HO22.out hb)
                    replace HO38 := Aside0.mk (Kd.R_below HO38.out hb)
                    replace HO77 := Aside0.mk (Kd.R_below HO77.out hb)
                    replace HO81 := Aside0.mk (Kd.R_below HO81.out hb)
                    replace HO84 := Aside0.mk (Kd.S_below HO84.out hb)
                    replace BK1 := Aside0.mk (blk_below (g := gb1) (o := .cells #[.slice A0_0 l0_0.length c0_0, .int .i64 a0_1] 24 (0, 0)) BK1.out hb)
                    replace BK2 := Aside0.mk (blk_below (g := gb2) (o := .cells #[.slice A1_0 l1_0.length c1_0, .bool a1_1] 42 (0, 0)) BK2.out hb)
                    replace BK3 := Aside0.mk (blk_below (g := gb3) (o := .cells #[.slice B22 t19.length d22, .bool t20] 46 (0, 0)) BK3.out hb)
                    replace BK4 := Aside0.mk (blk_below (g := gb4) (o := .cells #[.slice B26 t60.length d26, .int .i64 t25] 27 (0, 0)) BK4.out hb)
                    replace BK5 := Aside0.mk (blk_below (g := gb5) (o := .cells #[.slice B30 t63.length d30, .bool t29] 46 (0, 0)) BK5.out hb)
                    replace BK6 := Aside0.mk (blk_below (g := gb6) (o := .cells #[.slice B38 t71.length d38, .bool t36] 46 (0, 0)) BK6.out hb)
                    replace HB := Aside0.mk (below_step HB.out hb)
                    replace HT := Aside0.mk (Nat.le_trans HT.out hb.size)
                    have BK7 := Aside0.mk hbox
                    replace HT := Aside0.mk (Nat.succ_le_of_lt (blk_lt hbox))
                    replace HN := Aside0.mk (And.intro nn HN.out)
                    clear hg hbox hb nn
                    refine hK.out _ _ ⟨(blk_cell BK1.out 0).trans rfl, (blk_cell BK1.out 1).trans rfl, (blk_cell BK2.out 0).trans rfl, (blk_cell BK2.out 1).trans rfl⟩ (fun hHeld => ?_)
                    clear hK K
                    refine norm_ (a' := ?_) ?_ ?_
                    rotate_left
                    · show Act.put _ (some 18) _ = _
                      simp only [Act.put, List.setIfInBounds_toArray, List.set_cons_zero, List.set_cons_succ, i64_w, i32_w]
                      rfl
                    exact norm_ (by first | (simp only [putAll, Act.put, List.setIfInBounds_toArray, List.set_cons_zero, List.set_cons_succ]; done) | (simp only [putAll, Act.put, List.setIfInBounds_toArray, List.set_cons_zero, List.set_cons_succ]; rfl)) (hJ3 (B77, d77, B81, d81, B84, d84, gb7) _ ⟨lo77, hi77, lo81, hi81, lo84, hi84, gb7.succ, HO22, HO38, HO77, HO81, HO84, BK1, BK2, BK3, BK4, BK5, BK6, BK7, HB, HT, GE7, ⟨by have hn_ := HN.out; (try dsimp only); omega⟩⟩)
                · skip
                  refine box_step (by rfl) (N := 18) rfl (cs := #[.slice none 0 0, .bool false]) (t := 46) ?hr ?_
                  (case hr => first | (go_simp; done) | (go_simp; rfl))
                  intro gb7 hg W70 hbox hb
                  have nn : hi81 ≤ gb7 := Nat.le_trans HT.out (Nat.le_of_eq hg.symm)
                  have GE7 := Aside0.mk (Nat.le_trans (below_size HB.out) (Nat.le_of_eq hg.symm))
                  replace HO22 := Aside0.mk (Kd.R_below HO22.out hb)
                  replace HO38 := Aside0.mk (Kd.R_below HO38.out hb)
                  replace HO77 := Aside0.mk (Kd.R_below HO77.out hb)
                  replace HO81 := Aside0.mk (Kd.R_below HO81.out hb)
                  replace BK1 := Aside0.mk (blk_below (g := gb1) (o := .cells #[.slice A0_0 l0_0.length c0_0, .int .i64 a0_1] 24 (0, 0)) BK1.out hb)
                  replace BK2 := Aside0.mk (blk_below (g := gb2) (o := .cells #[.slice A1_0 l1_0.length c1_0, .bool a1_1] 42 (0, 0)) BK2.out hb)
                  replace BK3 := Aside0.mk (blk_below (g := gb3) (o := .cells #[.slice B22 t19.length d22, .bool t20] 46 (0, 0)) BK3.out hb)
                  replace BK4 := Aside0.mk (blk_below (g := gb4) (o := .cells #[.slice B26 t60.length d26, .int .i64 t25] 27 (0, 0)) BK4.out hb)
                  replace BK5 := Aside0.mk (blk_below (g := gb5) (o := .cells #[.slice B30 t63.length d30, .bool t29] 46 (0, 0)) BK5.out hb)
                  replace BK6 := Aside0.mk (blk_below (g := gb6) (o := .cells #[.slice B38 t71.length d38, .bool t36] 46 (0, 0)) BK6.out hb)
                  replace HB := Aside0.mk (below_step HB.out hb)
                  replace HT := Aside0.mk (Nat.le_trans HT.out hb.size)
                  have BK7 := Aside0.mk hbox
                  replace HT := Aside0.mk (Nat.succ_le_of_lt (blk_lt hbox))
                  replace HN := Aside0.mk (And.intro nn HN.out)
                  clear hg hbox hb nn
                  refine hK.out _ _ ⟨(blk_cell BK1.out 0).trans rfl, (blk_cell BK1.out 1).trans rfl, (blk_cell BK2.out 0).trans rfl, (blk_cell BK2.out 1).trans rfl⟩ (fun hHeld => ?_)
                  clear hK K
                  refine norm_ (a' := ?_) ?_ ?_
                  rotate_left
                  · show Act.put _ (some 18) _ = _
                    simp only [Act.put, List.setIfInBounds_toArray, List.set_cons_zero, List.set_cons_succ, i64_w, i32_w]
                    rfl
                  exact norm_ (by first | (simp only [putAll, Act.put, List.setIfInBounds_toArray, List.set_cons_zero, List.set_cons_succ]; done) | (simp only [putAll, Act.put, List.setIfInBounds_toArray, List.set_cons_zero, List.set_cons_succ]; rfl)) (hJ2 (B77, d77, B81, d81, gb7) _ ⟨lo77, hi77, lo81, hi81, gb7.succ, HO22, HO38, HO77, HO81, BK1, BK2, BK3, BK4, BK5, BK6, BK7, HB, HT, GE7, ⟨by have hn_ := HN.out; (try dsimp only); omega⟩⟩)
              · skip
                refine box_step (by rfl) (N := 18) rfl (cs := #[.slice none 0 0, .bool false]) (t := 46) ?hr ?_
                (case hr => first | (go_simp; done) | (go_simp; rfl))
                intro gb7 hg W71 hbox hb
                have nn : hi77 ≤ gb7 := Nat.le_trans HT.out (Nat.le_of_eq hg.symm)
                have GE7 := Aside0.mk (Nat.le_trans (below_size HB.out) (Nat.le_of_eq hg.symm))
                replace HO22 := Aside0.mk (Kd.R_below HO22.out hb)
                replace HO38 := Aside0.mk (Kd.R_below HO38.out hb)
                replace HO77 := Aside0.mk (Kd.R_below HO77.out hb)
                replace BK1 := Aside0.mk (blk_below (g := gb1) (o := .cells #[.slice A0_0 l0_0.length c0_0, .int .i64 a0_1] 24 (0, 0)) BK1.out hb)
                replace BK2 := Aside0.mk (blk_below (g := gb2) (o := .cells #[.slice A1_0 l1_0.length c1_0, .bool a1_1] 42 (0, 0)) BK2.out hb)
                replace BK3 := Aside0.mk (blk_below (g := gb3) (o := .cells #[.slice B22 t19.length d22, .bool t20] 46 (0, 0)) BK3.out hb)
                replace BK4 := Aside0.mk (blk_below (g := gb4) (o := .cells #[.slice B26 t60.length d26, .int .i64 t25] 27 (0, 0)) BK4.out hb)
                replace BK5 := Aside0.mk (blk_below (g := gb5) (o := .cells #[.slice B30 t63.length d30, .bool t29] 46 (0, 0)) BK5.out hb)
                replace BK6 := Aside0.mk (blk_below (g := gb6) (o := .cells #[.slice B38 t71.length d38, .bool t36] 46 (0, 0)) BK6.out hb)
                replace HB := Aside0.mk (below_step HB.out hb)
                replace HT := Aside0.mk (Nat.le_trans HT.out hb.size)
                have BK7 := Aside0.mk hbox
                replace HT := Aside0.mk (Nat.succ_le_of_lt (blk_lt hbox))
                replace HN := Aside0.mk (And.intro nn HN.out)
                clear hg hbox hb nn
                refine hK.out _ _ ⟨(blk_cell BK1.out 0).trans rfl, (blk_cell BK1.out 1).trans rfl, (blk_cell BK2.out 0).trans rfl, (blk_cell BK2.out 1).trans rfl⟩ (fun hHeld => ?_)
                clear hK K
                refine norm_ (a' := ?_) ?_ ?_
                rotate_left
                · show Act.put _ (some 18) _ = _
                  simp only [Act.put, List.setIfInBounds_toArray, List.set_cons_zero, List.set_cons_succ, i64_w, i32_w]
                  rfl
                exact norm_ (by first | (simp only [putAll, Act.put, List.setIfInBounds_toArray, List.set_cons_zero, List.set_cons_succ]; done) | (simp only [putAll, Act.put, List.setIfInBounds_toArray, List.set_cons_zero, List.set_cons_succ]; rfl)) (hJ1 (B77, d77, gb7) _ ⟨lo77, hi77, gb7.succ, HO22, HO38, HO77, BK1, BK2, BK3, BK4, BK5, BK6, BK7, HB, HT, GE7, ⟨by have hn_ := HN.out; (try dsimp only); omega⟩⟩)
            · skip
              refine box_step (by rfl) (N := 18) rfl (cs := #[.slice none 0 0, .bool false]) (t := 46) ?hr ?_
              (case hr => first | (go_simp; done) | (go_simp; rfl))
              intro gb7 hg W72 hbox hb
              have nn : hi55 ≤ gb7 := Nat.le_trans HT.out (Nat.le_of_eq hg.symm)
              have GE7 := Aside0.mk (Nat.le_trans (below_size HB.out) (Nat.le_of_eq hg.symm))
              replace HO22 := Aside0.mk (Kd.R_below HO22.out hb)
              replace HO38 := Aside0.mk (Kd.R_below HO38.out hb)
              replace BK1 := Aside0.mk (blk_below (g := gb1) (o := .cells #[.slice A0_0 l0_0.length c0_0, .int .i64 a0_1] 24 (0, 0)) BK1.out hb)
              replace BK2 := Aside0.mk (blk_below (g := gb2) (o := .cells #[.slice A1_0 l1_0.length c1_0, .bool a1_1] 42 (0, 0)) BK2.out hb)
              replace BK3 := Aside0.mk (blk_below (g := gb3) (o := .cells #[.slice B22 t19.length d22, .bool t20] 46 (0, 0)) BK3.out hb)
              replace BK4 := Aside0.mk (blk_below (g := gb4) (o := .cells #[.slice B26 t60.length d26, .int .i64 t25] 27 (0, 0)) BK4.out hb)
              replace BK5 := Aside0.mk (blk_below (g := gb5) (o := .cells #[.slice B30 t63.length d30, .bool t29] 46 (0, 0)) BK5.out hb)
              replace BK6 := Aside0.mk (blk_below (g := gb6) (o := .cells #[.slice B38 t71.length d38, .bool t36] 46 (0, 0)) BK6.out hb)
              replace HB := Aside0.mk (below_step HB.out hb)
              replace HT := Aside0.mk (Nat.le_trans HT.out hb.size)
              have BK7 := Aside0.mk hbox
              replace HT := Aside0.mk (Nat.succ_le_of_lt (blk_lt hbox))
              replace HN := Aside0.mk (And.intro nn HN.out)
              clear hg hbox hb nn
              refine hK.out _ _ ⟨(blk_cell BK1.out 0).trans rfl, (blk_cell BK1.out 1).trans rfl, (blk_cell BK2.out 0).trans rfl, (blk_cell BK2.out 1).trans rfl⟩ (fun hHeld => ?_)
              clear hK K
              refine norm_ (a' := ?_) ?_ ?_
              rotate_left
              · show Act.put _ (some 18) _ = _
                simp only [Act.put, List.setIfInBounds_toArray, List.set_cons_zero, List.set_cons_succ, i64_w, i32_w]
                rfl
              exact norm_ (by first | (simp only [putAll, Act.put, List.setIfInBounds_toArray, List.set_cons_zero, List.set_cons_succ]; done) | (simp only [putAll, Act.put, List.setIfInBounds_toArray, List.set_cons_zero, List.set_cons_succ]; rfl)) (hJ0 (gb7) _ ⟨gb7.succ, HO22, HO38, BK1, BK2, BK3, BK4, BK5, BK6, BK7, HB, HT, GE7, ⟨by have hn_ := HN.out; (try dsimp only); omega⟩⟩)
          · skip
            clear HO22 HO38 BK1 BK2 BK3 BK4 BK5 BK6 HB HT
            (try clear hHeld)
            intro s_ W73 hF
            obtain ⟨gb7, hs_⟩ : ∃ x, x = s_ := ⟨_, rfl⟩
            subst hs_
            (try dsimp only at hF)
            obtain ⟨T0_, HO22, HO38, BK1, BK2, BK3, BK4, BK5, BK6, BK7, HB, HT, GE7, nn_⟩ := hF
            replace HN := Aside0.mk (And.intro nn_.out HN.out)
            clear nn_
            refine norm_ (a' := ?_) ?_ ?_
            rotate_left
            · simp only [putAll, Act.put, List.setIfInBounds_toArray, List.set_cons_zero, List.set_cons_succ]
              rfl
            refine one_ (i := 1) (N := some 117) #[true, true, true, false, true, false, false, false, false, false, true, false, false] rfl rfl (by kernel_rfl) (by decide) (fun K hK => ?_)
            refine goes_ Try.func17 (by kernel_rfl) rfl #[.agg #[.slice A0_0 l0_0.length c0_0, .int .i64 a0_1]] (by rfl) rfl rfl (by (try simp only [List.map_toArray, List.map_cons, List.map_nil]); first | done | rfl) ?_
            with_reducible refine (laws_toParty.calls k _ _ l0_0 a0_1 t75 t76 _ (Kd.C_below HR0_0.out HB.out) HC0_0.out A74.out).mono ?_
            rintro e W74 ⟨v77, rfl, ho77, hb⟩
            refine ⟨_, rfl, ?_⟩
            obtain ⟨B77, d77, e_⟩ := Kd.R_slice ho77
            subst e_
            obtain ⟨lo77, hi77, nn, ht_, hO77⟩ := laws_FnExactPlayTrips.newR ho77 HT.out (below_size HB.out) hb.size
            replace HO22 := Aside0.mk (Kd.R_below HO22.out hb)
            replace HO38 := Aside0.mk (Kd.R_below HO38.out hb)
            replace BK1 := Aside0.mk (blk_below (g := gb1) (o := .cells #[.slice A0_0 l0_0.length c0_0, .int .i64 a0_1] 24 (0, 0)) BK1.out hb)
            replace BK2 := Aside0.mk (blk_below (g := gb2) (o := .cells #[.slice A1_0 l1_0.length c1_0, .bool a1_1] 42 (0, 0)) BK2.out hb)
            replace BK3 := Aside0.mk (blk_below (g := gb3) (o := .cells #[.slice B22 t19.length d22, .bool t20] 46 (0, 0)) BK3.out hb)
            replace BK4 := Aside0.mk (blk_below (g := gb4) (o := .cells #[.slice B26 t60.length d26, .int .i64 t25] 27 (0, 0)) BK4.out hb)
            replace BK5 := Aside0.mk (blk_below (g := gb5) (o := .cells #[.slice B30 t63.length d30, .bool t29] 46 (0, 0)) BK5.out hb)
            replace BK6 := Aside0.mk (blk_below (g := gb6) (o := .cells #[.slice B38 t71.length d38, .bool t36] 46 (0, 0)) BK6.out hb)
            replace BK7 := Aside0.mk (blk_below (g := gb7) (o := .cells #[.slice none 0 0, .bool false] 46 (0, 0)) BK7.out hb)
            replace HB := Aside0.mk (below_step HB.out hb)
            replace HT := Aside0.mk (Nat.le_trans HT.out hb.size)
            have HO77 := Aside0.mk hO77
            replace HT := Aside0.mk ht_
            replace HN := Aside0.mk (And.intro nn HN.out)
            clear ho77 hO77 nn ht_
            clear hb
            refine hK.out _ _ ⟨(blk_cell BK1.out 0).trans rfl, (blk_cell BK1.out 1).trans rfl, (blk_cell BK2.out 0).trans rfl, (blk_cell BK2.out 1).trans rfl⟩ (fun hHeld => ?_)
            clear hK K
            refine norm_ (a' := ?_) ?_ ?_
            rotate_left
            · show Act.put _ (some 117) _ = _
              simp only [Act.put, List.setIfInBounds_toArray, List.set_cons_zero, List.set_cons_succ, i64_w, i32_w]
              rfl
            exact norm_ (by first | (simp only [putAll, Act.put, List.setIfInBounds_toArray, List.set_cons_zero, List.set_cons_succ]; done) | (simp only [putAll, Act.put, List.setIfInBounds_toArray, List.set_cons_zero, List.set_cons_succ]; rfl)) (hJ1 (B77, d77, gb7) _ ⟨lo77, hi77, hi77, HO22, HO38, HO77, BK1, BK2, BK3, BK4, BK5, BK6, BK7, HB, HT, GE7, ⟨by have hn_ := HN.out; (try dsimp only); omega⟩⟩)
        · skip
          clear HO22 HO38 BK1 BK2 BK3 BK4 BK5 BK6 HB HT
          (try clear hHeld)
          intro s_ W75 hF
          obtain ⟨B77, d77, gb7⟩ := s_
          (try dsimp only at hF)
          obtain ⟨lo77, hi77, T1_, HO22, HO38, HO77, BK1, BK2, BK3, BK4, BK5, BK6, BK7, HB, HT, GE7, nn_⟩ := hF
          replace HN := Aside0.mk (And.intro nn_.out HN.out)
          clear nn_
          refine norm_ (a' := ?_) ?_ ?_
          rotate_left
          · simp only [putAll, Act.put, List.setIfInBounds_toArray, List.set_cons_zero, List.set_cons_succ]
            rfl
          refine one_ (i := 3) (N := some 119) #[true, true, true, true, true, false, false, false, false, false, true, false, false] rfl rfl (by kernel_rfl) (by decide) (fun K hK => ?_)
          refine goes_ Try.func32 (by kernel_rfl) rfl #[.agg #[.slice A1_0 l1_0.length c1_0, .bool a1_1]] (by rfl) rfl rfl (by (try simp only [List.map_toArray, List.map_cons, List.map_nil]); first | done | rfl) ?_
          with_reducible refine (laws_toState.calls k _ _ l1_0 a1_1 t79 t80 _ (Kd.C_below HR1_0.out HB.out) HC1_0.out A78.out).mono ?_
          rintro e W76 ⟨v81, rfl, ho81, hb⟩
          refine ⟨_, rfl, ?_⟩
          obtain ⟨B81, d81, e_⟩ := Kd.R_slice ho81
          subst e_
          obtain ⟨lo81, hi81, nn, ht_, hO81⟩ := laws_FnExactPlayTrips.newR ho81 HT.out (below_size HB.out) hb.size
          replace HO22 := Aside0.mk (Kd.R_below HO22.out hb)
          replace HO38 := Aside0.mk (Kd.R_below HO38.out hb)
          replace HO77 := Aside0.mk (Kd.R_below HO77.out hb)
          replace BK1 := Aside0.mk (blk_below (g := gb1) (o := .cells #[.slice A0_0 l0_0.length c0_0, .int .i64 a0_1] 24 (0, 0)) BK1.out hb)
          replace BK2 := Aside0.mk (blk_below (g := gb2) (o := .cells #[.slice A1_0 l1_0.length c1_0, .bool a1_1] 42 (0, 0)) BK2.out hb)
          replace BK3 := Aside0.mk (blk_below (g := gb3) (o := .cells #[.slice B22 t19.length d22, .bool t20] 46 (0, 0)) BK3.out hb)
          replace BK4 := Aside0.mk (blk_below (g := gb4) (o := .cells #[.slice B26 t60.length d26, .int .i64 t25] 27 (0, 0)) BK4.out hb)
          replace BK5 := Aside0.mk (blk_below (g := gb5) (o := .cells #[.slice B30 t63.length d30, .bool t29] 46 (0, 0)) BK5.out hb)
          replace BK6 := Aside0.mk (blk_below (g := gb6) (o := .cells #[.slice B38 t71.length d38, .bool t36] 46 (0, 0)) BK6.out hb)
          replace BK7 := Aside0.mk (blk_below (g := gb7) (o := .cells #[.slice none 0 0, .bool false] 46 (0, 0)) BK7.out hb)
          replace HB := Aside0.mk (below_step HB.out hb)
          replace HT := Aside0.mk (Nat.le_trans HT.out hb.size)
          have HO81 := Aside0.mk hO81
          replace HT := Aside0.mk ht_
          replace HN := Aside0.mk (And.intro nn HN.out)
          clear ho81 hO81 nn ht_
          clear hb
          refine hK.out _ _ ⟨(blk_cell BK1.out 0).trans rfl, (blk_cell BK1.out 1).trans rfl, (blk_cell BK2.out 0).trans rfl, (blk_cell BK2.out 1).trans rfl⟩ (fun hHeld => ?_)
          clear hK K
          refine norm_ (a' := ?_) ?_ ?_
          rotate_left
          · show Act.put _ (some 119) _ = _
            simp only [Act.put, List.setIfInBounds_toArray, List.set_cons_zero, List.set_cons_succ, i64_w, i32_w]
            rfl
          exact norm_ (by first | (simp only [putAll, Act.put, List.setIfInBounds_toArray, List.set_cons_zero, List.set_cons_succ]; done) | (simp only [putAll, Act.put, List.setIfInBounds_toArray, List.set_cons_zero, List.set_cons_succ]; rfl)) (hJ2 (B77, d77, B81, d81, gb7) _ ⟨lo77, hi77, lo81, hi81, hi81, HO22, HO38, HO77, HO81, BK1, BK2, BK3, BK4, BK5, BK6, BK7, HB, HT, GE7, ⟨by have hn_ := HN.out; (try dsimp only); omega⟩⟩)
      · skip
        clear HO22 HO38 BK1 BK2 BK3 BK4 BK5 BK6 HB HT
        (try clear hHeld)
        intro s_ W77 hF
        obtain ⟨B77, d77, B81, d81, gb7⟩ := s_
        (try dsimp only at hF)
        obtain ⟨lo77, hi77, lo81, hi81, T2_, HO22, HO38, HO77, HO81, BK1, BK2, BK3, BK4, BK5, BK6, BK7, HB, HT, GE7, nn_⟩ := hF
        replace HN := Aside0.mk (And.intro nn_.out HN.out)
        clear nn_
        refine norm_ (a' := ?_) ?_ ?_
        rotate_left
        · simp only [putAll, Act.put, List.setIfInBounds_toArray, List.set_cons_zero, List.set_cons_succ]
          rfl
        refine one_ (i := 5) (N := some 121) #[true, true, true, true, true, true, false, false, false, false, true, false, false] rfl rfl (by kernel_rfl) (by decide) (fun K hK => ?_)
        refine goes_ Try.func48 (by kernel_rfl) rfl #[.slice A2 l2.length c2] (by rfl) rfl rfl (by (try simp only [List.map_toArray, List.map_cons, List.map_nil]); first | done | rfl) ?_
        with_reducible refine (laws_toIntSS.calls k _ _ l2 t83 _ (Kd.C_below HR2.out HB.out) HC2.out A82.out).mono ?_
        rintro e W78 ⟨v84, rfl, ho84, hb⟩
        refine ⟨_, rfl, ?_⟩
        obtain ⟨B84, d84, e_⟩ := Kd.S_slice ho84
        subst e_
        obtain ⟨lo84, hi84, nn, ht_, hO84⟩ := laws_FnExactPlayTrips.newS ho84 HT.out (below_size HB.out) hb.size
        replace HO22 := Aside0.mk (Kd.R_below HO22.out hb)
        replace HO38 := Aside0.mk (Kd.R_below HO38.out hb)
        replace HO77 := Aside0.mk (Kd.R_below HO77.out hb)
        replace HO81 := Aside0.mk (Kd.R_below HO81.out hb)
        replace BK1 := Aside0.mk (blk_below (g := gb1) (o := .cells #[.slice A0_0 l0_0.length c0_0, .int .i64 a0_1] 24 (0, 0)) BK1.out hb)
        replace BK2 := Aside0.mk (blk_below (g := gb2) (o := .cells #[.slice A1_0 l1_0.length c1_0, .bool a1_1] 42 (0, 0)) BK2.out hb)
        replace BK3 := Aside0.mk (blk_below (g := gb3) (o := .cells #[.slice B22 t19.length d22, .bool t20] 46 (0, 0)) BK3.out hb)
        replace BK4 := Aside0.mk (blk_below (g := gb4) (o := .cells #[.slice B26 t60.length d26, .int .i64 t25] 27 (0, 0)) BK4.out hb)
        replace BK5 := Aside0.mk (blk_below (g := gb5) (o := .cells #[.slice B30 t63.length d30, .bool t29] 46 (0, 0)) BK5.out hb)
        replace BK6 := Aside0.mk (blk_below (g := gb6) (o := .cells #[.slice B38 t71.length d38, .bool t36] 46 (0, 0)) BK6.out hb)
        replace BK7 := Aside0.mk (blk_below (g := gb7) (o := .cells #[.slice none 0 0, .bool false] 46 (0, 0)) BK7.out hb)
        replace HB := Aside0.mk (below_step HB.out hb)
        replace HT := Aside0.mk (Nat.le_trans HT.out hb.size)
        have HO84 := Aside0.mk hO84
        replace HT := Aside0.mk ht_
        replace HN := Aside0.mk (And.intro nn HN.out)
        clear ho84 hO84 nn ht_
        clear hb
        refine hK.out _ _ ⟨(blk_cell BK1.out 0).trans rfl, (blk_cell BK1.out 1).trans rfl, (blk_cell BK2.out 0).trans rfl, (blk_cell BK2.out 1).trans rfl⟩ (fun hHeld => ?_)
        clear hK K
        refine norm_ (a' := ?_) ?_ ?_
        rotate_left
        · show Act.put _ (some 121) _ = _
          simp only [Act.put, List.setIfInBounds_toArray, List.set_cons_zero, List.set_cons_succ, i64_w, i32_w]
          rfl
        exact norm_ (by first | (simp only [putAll, Act.put, List.setIfInBounds_toArray, List.set_cons_zero, List.set_cons_succ]; done) | (simp only [putAll, Act.put, List.setIfInBounds_toArray, List.set_cons_zero, List.set_cons_succ]; rfl)) (hJ3 (B77, d77, B81, d81, B84, d84, gb7) _ ⟨lo77, hi77, lo81, hi81, lo84, hi84, hi84, HO22, HO38, HO77, HO81, HO84, BK1, BK2, BK3, BK4, BK5, BK6, BK7, HB, HT, GE7, ⟨by have hn_ := HN.out; (try dsimp only); omega⟩⟩)
    · skip
      clear HO22 HO38 BK1 BK2 BK3 BK4 BK5 BK6 HB HT
      (try clear hHeld)
      intro s_ W79 hF
      obtain ⟨B77, d77, B81, d81, B84, d84, gb7⟩ := s_
      (try dsimp only at hF)
      obtain ⟨lo77, hi77, lo81, hi81, lo84, hi84, T3_, HO22, HO38, HO77, HO81, HO84, BK1, BK2, BK3, BK4, BK5, BK6, BK7, HB, HT, GE7, nn_⟩ := hF
      replace HN := Aside0.mk (And.intro nn_.out HN.out)
      clear nn_
      refine norm_ (a' := ?_) ?_ ?_
      rotate_left
      · simp only [putAll, Act.put, List.setIfInBounds_toArray, List.set_cons_zero, List.set_cons_succ]
        rfl
      refine one_ (i := 6) (N := some 122) #[true, true, true, true, true, true, true, false, false, false, true, false, false] rfl rfl (by kernel_rfl) (by decide) (fun K hK => ?_)
      refine goes_ Try.func52 (by kernel_rfl) rfl #[.agg #[.slice B77 t75.length d77, .int .i64 t76], .agg #[.slice B81 t79.length d81, .bool t80], .slice B84 t83.length d84] (by rfl) rfl rfl (by (try simp only [List.map_toArray, List.map_cons, List.map_nil]); first | done | rfl) ?_
      with_reducible refine (impl_PlayTrips.calls k _ _ t75 t76 (fun _ => True) _ _ t79 t80 _ _ t83 t86 t87 t88 _ (Kd.R_reads' HO77.out).2.2 (Kd.R_reads' HO77.out).2.1 (Kd.V_mono (Kd.R_V (Kd.R_lower HO81.out (Nat.le_refl _))) (fun _ _ => trivial)) (Kd.R_reads' (Kd.S_R HO84.out)).2.2 (Kd.R_reads' (Kd.S_R HO84.out)).2.1 A85.out).mono ?_
      rintro e W80 ⟨v89, rfl, ho89, hb⟩
      refine ⟨_, rfl, ?_⟩
      obtain ⟨B89, d89, e_⟩ := Kd.R_slice ho89
      subst e_
      obtain ⟨lo89, hi89, nn, ht_, hO89⟩ := laws_FnExactPlayTrips.newR ho89 HT.out (below_size HB.out) hb.size
      replace HO22 := Aside0.mk (Kd.R_below HO22.out hb)
      replace HO38 := Aside0.mk (Kd.R_below HO38.out hb)
      replace HO77 := Aside0.mk (Kd.R_below HO77.out hb)
      replace HO81 := Aside0.mk (Kd.R_below HO81.out hb)
      replace HO84 := Aside0.mk (Kd.S_below HO84.out hb)
      replace BK1 := Aside0.mk (blk_below (g := gb1) (o := .cells #[.slice A0_0 l0_0.length c0_0, .int .i64 a0_1] 24 (0, 0)) BK1.out hb)
      replace BK2 := Aside0.mk (blk_below (g := gb2) (o := .cells #[.slice A1_0 l1_0.length c1_0, .bool a1_1] 42 (0, 0)) BK2.out hb)
      replace BK3 := Aside0.mk (blk_below (g := gb3) (o := .cells #[.slice B22 t19.length d22, .bool t20] 46 (0, 0)) BK3.out hb)
      replace BK4 := Aside0.mk (blk_below (g := gb4) (o := .cells #[.slice B26 t60.length d26, .int .i64 t25] 27 (0, 0)) BK4.out hb)
      replace BK5 := Aside0.mk (blk_below (g := gb5) (o := .cells #[.slice B30 t63.length d30, .bool t29] 46 (0, 0)) BK5.out hb)
      replace BK6 := Aside0.mk (blk_below (g := gb6) (o := .cells #[.slice B38 t71.length d38, .bool t36] 46 (0, 0)) BK6.out hb)
      replace BK7 := Aside0.mk (blk_below (g := gb7) (o := .cells #[.slice none 0 0, .bool false] 46 (0, 0)) BK7.out hb)
      replace HB := Aside0.mk (below_step HB.out hb)
      replace HT := Aside0.mk (Nat.le_trans HT.out hb.size)
      have HO89 := Aside0.mk hO89
      replace HT := Aside0.mk ht_
      replace HN := Aside0.mk (And.intro nn HN.out)
      clear ho89 hO89 nn ht_
      clear hb
      clear HO77 HO81 HO84
      refine hK.out _ _ ⟨(blk_cell BK1.out 0).trans rfl, (blk_cell BK1.out 1).trans rfl, (blk_cell BK2.out 0).trans rfl, (blk_cell BK2.out 1).trans rfl⟩ (fun hHeld => ?_)
      clear hK K
      refine norm_ (a' := ?_) ?_ ?_
      rotate_left
      · show Act.put _ (some 122) _ = _
        simp only [Act.put, List.setIfInBounds_toArray, List.set_cons_zero, List.set_cons_succ, i64_w, i32_w]
        rfl
      refine pure_ (i := 7) (N := some 115) (v := ?_) (a' := ?_) #[true, true, true, true, true, true, true, true, false, false, true, false, false] rfl rfl (by kernel_rfl) (fun _ _ _ h => h) (Or.inl ⟨by rfl, ?_⟩) ?_ ?_
      rotate_left
      · intro w'
        go_simp
        with_reducible rfl
      rotate_left
      · simp only [Act.put, List.setIfInBounds_toArray, List.set_cons_zero, List.set_cons_succ, i64_w, i32_w]
        rfl
      refine pure_ (i := 8) (N := some 123) (v := ?_) (a' := ?_) #[true, true, true, true, true, true, true, true, true, false, true, false, false] rfl rfl (by kernel_rfl) (fun _ _ _ h => h) (Or.inl ⟨by rfl, ?_⟩) ?_ ?_
      rotate_left
      · intro w'
        go_simp
        with_reducible rfl
      rotate_left
      · simp only [Act.put, List.setIfInBounds_toArray, List.set_cons_zero, List.set_cons_succ, i64_w, i32_w]
        rfl
      refine pure_ (i := 9) (N := some 124) (v := ?_) (a' := ?_) #[true, true, true, true, true, true, true, true, true, true, true, false, false] rfl rfl (by kernel_rfl) (fun _ _ _ h => h) (Or.inl ⟨by rfl, ?_⟩) ?_ ?_
      rotate_left
      · intro w'
        go_simp
        with_reducible rfl
      rotate_left
      · simp only [Act.put, List.setIfInBounds_toArray, List.set_cons_zero, List.set_cons_succ, i64_w, i32_w]
        rfl
      exact norm_ (by first | (simp only [putAll, Act.put, List.setIfInBounds_toArray, List.set_cons_zero, List.set_cons_succ]; done) | (simp only [putAll, Act.put, List.setIfInBounds_toArray, List.set_cons_zero, List.set_cons_succ]; rfl)) (hJ4 (B77, d77, B81, d81, B84, d84, B89, d89, gb7) _ ⟨lo89, hi89, hi89, HO22, HO38, HO89, BK1, BK2, BK3, BK4, BK5, BK6, BK7, HB, HT, GE7, ⟨by have hn_ := HN.out; (try dsimp only); omega⟩⟩)
  clear HO22 HO38 BK1 BK2 BK3 BK4 BK5 BK6 HB HT
  (try clear hHeld)
  intro s_ W81 hF
  obtain ⟨B77, d77, B81, d81, B84, d84, B89, d89, gb7⟩ := s_
  (try dsimp only at hF)
  obtain ⟨lo89, hi89, T4_, HO22, HO38, HO89, BK1, BK2, BK3, BK4, BK5, BK6, BK7, HB, HT, GE7, nn_⟩ := hF
  replace HN := Aside0.mk (And.intro nn_.out HN.out)
  clear nn_
  refine norm_ (a' := ?_) ?_ ?_
  rotate_left
  · simp only [putAll, Act.put, List.setIfInBounds_toArray, List.set_cons_zero, List.set_cons_succ]
    rfl
  refine one_ (i := 11) (N := none) #[true, true, true, true, true, true, true, true, true, true, true, true, false] rfl rfl (by kernel_rfl) (by decide) (fun K hK => ?_)
  refine laws_FnExactPlayTrips.storeK (by rfl) rfl rfl gb7 46 #[.slice none 0 0, .bool false] (.agg #[.slice B89 t86.length d89, .bool t87]) [.slice B89 t86.length d89, .bool t87] rfl rfl BK7.out rfl (by kernel_rfl) rfl (by intro q_ hq_; simp only [List.mem_cons, List.not_mem_nil, or_false] at hq_; rcases hq_ with rfl | rfl <;> rfl) ?_
  intro W82 hbx hg
  replace HO22 := Aside0.mk (laws_FnExactPlayTrips.grownR HO22.out hg (by have hn_ := HN.out; omega))
  replace HO38 := Aside0.mk (laws_FnExactPlayTrips.grownR HO38.out hg (by have hn_ := HN.out; omega))
  replace HO89 := Aside0.mk (laws_FnExactPlayTrips.grownR HO89.out hg (by have hn_ := HN.out; omega))
  replace BK1 := Aside0.mk (laws_FnExactPlayTrips.grownB BK1.out hg (by have hn_ := HN.out; omega))
  replace BK2 := Aside0.mk (laws_FnExactPlayTrips.grownB BK2.out hg (by have hn_ := HN.out; omega))
  replace BK3 := Aside0.mk (laws_FnExactPlayTrips.grownB BK3.out hg (by have hn_ := HN.out; omega))
  replace BK4 := Aside0.mk (laws_FnExactPlayTrips.grownB BK4.out hg (by have hn_ := HN.out; omega))
  replace BK5 := Aside0.mk (laws_FnExactPlayTrips.grownB BK5.out hg (by have hn_ := HN.out; omega))
  replace BK6 := Aside0.mk (laws_FnExactPlayTrips.grownB BK6.out hg (by have hn_ := HN.out; omega))
  replace HB := Aside0.mk (Below.grown HB.out hg (below_size HB.out) (fun k_ hk_ => by injection hk_ with hk_; subst hk_; exact GE7.out))
  replace HT := Aside0.mk (Nat.le_trans HT.out hg.size)
  replace BK7 := Aside0.mk hbx
  clear hbx hg
  refine hK.out _ _ ⟨(blk_cell BK1.out 0).trans rfl, (blk_cell BK1.out 1).trans rfl, (blk_cell BK2.out 0).trans rfl, (blk_cell BK2.out 1).trans rfl⟩ (fun hHeld => ?_)
  clear hK K
  refine pure_ (i := 12) (N := some 19) (v := ?_) (a' := ?_) #[true, true, true, true, true, true, true, true, true, true, true, true, true] rfl rfl (by kernel_rfl) (fun _ _ _ h => h) (Or.inl ⟨by rfl, ?_⟩) ?_ ?_
  rotate_left
  · intro w'
    go_simp
    with_reducible rfl
  rotate_left
  · simp only [Act.put, List.setIfInBounds_toArray, List.set_cons_zero, List.set_cons_succ, i64_w, i32_w]
    rfl
  refine done_ (by kernel_rfl) ?_
  have cz7_0 : W82.cell? ⟨gb7, 0, none⟩ = some (.slice B89 t86.length d89) := (blk_cell BK7.out 0).trans rfl
  have cz7_1 : W82.cell? ⟨gb7, 1, none⟩ = some (.bool t87) := (blk_cell BK7.out 1).trans rfl
  have cz3_0 : W82.cell? ⟨gb3, 0, none⟩ = some (.slice B22 t19.length d22) := (blk_cell BK3.out 0).trans rfl
  have cz3_1 : W82.cell? ⟨gb3, 1, none⟩ = some (.bool t20) := (blk_cell BK3.out 1).trans rfl
  try go_wp2_with (first | ((with_reducible refine gate_dst (N := 127) rfl ?_); refine goesL_ (some 127) rfl rfl Try.func34 (by kernel_rfl) rfl #[.agg #[.slice B89 t86.length d89, .bool t87], .agg #[.slice B22 t19.length d22, .bool t20]] rfl (by (try simp only [List.map_toArray, List.map_cons, List.map_nil]); first | done | rfl) ?_; (with_reducible refine (laws_eqState.calls k _ _ t86 t87 _ _ t19 t20 true _ (Kd.R_reads' HO89.out).2.2 (Kd.R_reads' HO89.out).2.1 (Kd.R_reads' HO22.out).2.2 (Kd.R_reads' HO22.out).2.1 A90.out).mono ?_); rintro e W83 ⟨rfl, hb⟩; refine ⟨_, rfl, ?_⟩; replace HO22 := Aside0.mk (Kd.R_below HO22.out hb); replace HO38 := Aside0.mk (Kd.R_below HO38.out hb); replace HO89 := Aside0.mk (Kd.R_below HO89.out hb); replace BK1 := Aside0.mk (blk_below (g := gb1) (o := .cells #[.slice A0_0 l0_0.length c0_0, .int .i64 a0_1] 24 (0, 0)) BK1.out hb); replace BK2 := Aside0.mk (blk_below (g := gb2) (o := .cells #[.slice A1_0 l1_0.length c1_0, .bool a1_1] 42 (0, 0)) BK2.out hb); replace BK3 := Aside0.mk (blk_below (g := gb3) (o := .cells #[.slice B22 t19.length d22, .bool t20] 46 (0, 0)) BK3.out hb); replace BK4 := Aside0.mk (blk_below (g := gb4) (o := .cells #[.slice B26 t60.length d26, .int .i64 t25] 27 (0, 0)) BK4.out hb); replace BK5 := Aside0.mk (blk_below (g := gb5) (o := .cells #[.slice B30 t63.length d30, .bool t29] 46 (0, 0)) BK5.out hb); replace BK6 := Aside0.mk (blk_below (g := gb6) (o := .cells #[.slice B38 t71.length d38, .bool t36] 46 (0, 0)) BK6.out hb); replace BK7 := Aside0.mk (blk_below (g := gb7) (o := .cells #[.slice B89 t86.length d89, .bool t87] 46 (0, 0)) BK7.out hb); replace HB := Aside0.mk (below_step HB.out hb); replace HT := Aside0.mk (Nat.le_trans HT.out hb.size); clear hb; clear HO22 HO89; (try clear cz7_0 cz7_1 cz3_0 cz3_1); have cz6_0 : W83.cell? ⟨gb6, 0, none⟩ = some (.slice B38 t71.length d38) := (blk_cell BK6.out 0).trans rfl; have cz6_1 : W83.cell? ⟨gb6, 1, none⟩ = some (.bool t36) := (blk_cell BK6.out 1).trans rfl) | ((with_reducible refine gate_dst (N := 136) rfl ?_); refine goesL_ (some 136) rfl rfl Try.func38 (by kernel_rfl) rfl #[.agg #[.slice B38 t71.length d38, .bool t36], .int .i64 1] rfl (by (try simp only [List.map_toArray, List.map_cons, List.map_nil]); first | done | rfl) ?_; (with_reducible refine (laws_heldState.calls k _ _ t71 t36 1 t93 _ (Kd.R_reads' HO38.out).2.2 (Kd.R_reads' HO38.out).2.1 A92.out).mono ?_); rintro e W84 ⟨rfl, hb⟩; refine ⟨_, rfl, ?_⟩; replace HO38 := Aside0.mk (Kd.R_below HO38.out hb); replace BK1 := Aside0.mk (blk_below (g := gb1) (o := .cells #[.slice A0_0 l0_0.length c0_0, .int .i64 a0_1] 24 (0, 0)) BK1.out hb); replace BK2 := Aside0.mk (blk_below (g := gb2) (o := .cells #[.slice A1_0 l1_0.length c1_0, .bool a1_1] 42 (0, 0)) BK2.out hb); replace BK3 := Aside0.mk (blk_below (g := gb3) (o := .cells #[.slice B22 t19.length d22, .bool t20] 46 (0, 0)) BK3.out hb); replace BK4 := Aside0.mk (blk_below (g := gb4) (o := .cells #[.slice B26 t60.length d26, .int .i64 t25] 27 (0, 0)) BK4.out hb); replace BK5 := Aside0.mk (blk_below (g := gb5) (o := .cells #[.slice B30 t63.length d30, .bool t29] 46 (0, 0)) BK5.out hb); replace BK6 := Aside0.mk (blk_below (g := gb6) (o := .cells #[.slice B38 t71.length d38, .bool t36] 46 (0, 0)) BK6.out hb); replace BK7 := Aside0.mk (blk_below (g := gb7) (o := .cells #[.slice B89 t86.length d89, .bool t87] 46 (0, 0)) BK7.out hb); replace HB := Aside0.mk (below_step HB.out hb); replace HT := Aside0.mk (Nat.le_trans HT.out hb.size); clear hb; clear HO38; (try clear cz6_0 cz6_1)))
  go_ret
  exact ⟨by first | rfl | (simp; done) | (simp [*]; done), HB.out⟩

end Go.Proofs.Ytlbmbofhbficgaa.G
