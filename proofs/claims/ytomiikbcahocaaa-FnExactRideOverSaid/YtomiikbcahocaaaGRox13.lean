-- Laid by wip/gprint.py (the session's own program, round the kit's printer) for this claim.
import Derived.Test.YtomiikbcahocaaaGRox0
import Derived.Test.YtomiikbcahocaaaGRox1
import Derived.Test.YtomiikbcahocaaaGRox2
import Derived.Test.YtomiikbcahocaaaGRox6
import Derived.Test.YtomiikbcahocaaaGRox12
namespace Go.Proofs.Ytomiikbcahocaaa.G
open Go.RowKit Go.Proofs.YtomiikbcahocaaaW.PrintWords Go.Proofs.YtomiikbcahocaaaW.PrintLast Go.Proofs.YtomiikbcahocaaaW.PrintMore
attribute [local go_sem] max2_int min2_int max_two min_two max_three min_three max_four min_four   -- for this text's walks alone
set_option linter.unusedVariables false
set_option linter.unusedSimpArgs false

/-! ### laws_FnExactRideOver: function 9 -/
theorem laws_FnExactRideOver.newR {α : Type} {d : Kd α} {e T : Nat} {w W W' : World} {v : Value} {xs : List α} (h : d.R e W' W.heap.size (fun _ => True) v xs) (ht : T ≤ W.heap.size) (hw : w.heap.size ≤ W.heap.size) (hs : W.heap.size ≤ W'.heap.size) : ∃ lo hi : Nat, (T ≤ lo ∧ lo ≤ hi) ∧ hi ≤ W'.heap.size ∧ d.R e W' w.heap.size (fun k_ => lo ≤ k_ ∧ k_ < hi) v xs :=
  ⟨W.heap.size, W'.heap.size, ⟨ht, hs⟩, Nat.le_refl _, Kd.R_lower (Kd.R_mono (Kd.R_bound h) (fun _ hk => ⟨hk.2.1, hk.2.2.1⟩)) hw⟩
theorem laws_FnExactRideOver.newS {α : Type} {d : Kd α} {e T : Nat} {w W W' : World} {v : Value} {xs : List α} (h : Kd.S d e W' W.heap.size (fun _ => True) v xs) (ht : T ≤ W.heap.size) (hw : w.heap.size ≤ W.heap.size) (hs : W.heap.size ≤ W'.heap.size) : ∃ lo hi : Nat, (T ≤ lo ∧ lo ≤ hi) ∧ hi ≤ W'.heap.size ∧ Kd.S d e W' w.heap.size (fun k_ => lo ≤ k_ ∧ k_ < hi) v xs :=
  ⟨W.heap.size, W'.heap.size, ⟨ht, hs⟩, Nat.le_refl _, Kd.S_lower (Kd.S_mono (Kd.S_bound h) (fun _ hk => ⟨hk.2.1, hk.2.2.1⟩)) hw⟩
theorem laws_FnExactRideOver.newN {α : Type} {d : Kd α} {e T : Nat} {w W W' : World} {v : Value} {xs : List α} (h : Kd.N d e W' W.heap.size (fun k_ => W.heap.size ≤ k_) v xs) (ht : T ≤ W.heap.size) (hw : w.heap.size ≤ W.heap.size) (hs : W.heap.size ≤ W'.heap.size) : ∃ lo hi : Nat, (T ≤ lo ∧ lo ≤ hi) ∧ hi ≤ W'.heap.size ∧ Kd.N d e W' w.heap.size (fun k_ => lo ≤ k_ ∧ k_ < hi) v xs :=
  ⟨W.heap.size, W'.heap.size, ⟨ht, hs⟩, Nat.le_refl _, Kd.N_lower (Kd.N_mono (Kd.N_bound h) (fun _ hk => hk)) hw⟩
theorem laws_FnExactRideOver.grownN {α : Type} {d : Kd α} {e b lo hi g : Nat} {W W' : World} {v : Value} {xs : List α} (h : Kd.N d e W b (fun k_ => lo ≤ k_ ∧ k_ < hi) v xs) (hg : W.grownBy W' (some g)) (hne : g < lo ∨ hi ≤ g) : Kd.N d e W' b (fun k_ => lo ≤ k_ ∧ k_ < hi) v xs :=
  Kd.N_grown h hg (fun k hk he => by injection he with he; have h1 := hk.1; have h2 := hk.2; omega)
theorem laws_FnExactRideOver.keptN {α : Type} {d : Kd α} {e b lo hi lo' hi' : Nat} {W W' : World} {v : Value} {xs : List α} (h : Kd.N d e W b (fun k_ => lo ≤ k_ ∧ k_ < hi) v xs) (hk : Kept W W' (fun k_ => lo' ≤ k_ ∧ k_ < hi')) (hne : hi ≤ lo' ∨ hi' ≤ lo) : Kd.N d e W' b (fun k_ => lo ≤ k_ ∧ k_ < hi) v xs :=
  Kd.N_kept h hk (fun k h1 h2 => by have h3 := h1.1; have h4 := h1.2; have h5 := h2.1; have h6 := h2.2; omega)
theorem laws_FnExactRideOver.grownR {α : Type} {d : Kd α} {e b lo hi g : Nat} {W W' : World} {v : Value} {xs : List α} (h : d.R e W b (fun k_ => lo ≤ k_ ∧ k_ < hi) v xs) (hg : W.grownBy W' (some g)) (hne : g < lo ∨ hi ≤ g) : d.R e W' b (fun k_ => lo ≤ k_ ∧ k_ < hi) v xs :=
  Kd.R_grown h hg (fun k hk he => by injection he with he; have h1 := hk.1; have h2 := hk.2; omega)
theorem laws_FnExactRideOver.grownS {α : Type} {d : Kd α} {e b lo hi g : Nat} {W W' : World} {v : Value} {xs : List α} (h : Kd.S d e W b (fun k_ => lo ≤ k_ ∧ k_ < hi) v xs) (hg : W.grownBy W' (some g)) (hne : g < lo ∨ hi ≤ g) : Kd.S d e W' b (fun k_ => lo ≤ k_ ∧ k_ < hi) v xs :=
  Kd.S_grown h hg (fun k hk he => by injection he with he; have h1 := hk.1; have h2 := hk.2; omega)
theorem laws_FnExactRideOver.keptR {α : Type} {d : Kd α} {e b lo hi lo' hi' : Nat} {W W' : World} {v : Value} {xs : List α} (h : d.R e W b (fun k_ => lo ≤ k_ ∧ k_ < hi) v xs) (hk : Kept W W' (fun k_ => lo' ≤ k_ ∧ k_ < hi')) (hne : hi ≤ lo' ∨ hi' ≤ lo) : d.R e W' b (fun k_ => lo ≤ k_ ∧ k_ < hi) v xs :=
  Kd.R_kept h hk (fun k h1 h2 => by have h3 := h1.1; have h4 := h1.2; have h5 := h2.1; have h6 := h2.2; omega)
theorem laws_FnExactRideOver.keptS {α : Type} {d : Kd α} {e b lo hi lo' hi' : Nat} {W W' : World} {v : Value} {xs : List α} (h : Kd.S d e W b (fun k_ => lo ≤ k_ ∧ k_ < hi) v xs) (hk : Kept W W' (fun k_ => lo' ≤ k_ ∧ k_ < hi')) (hne : hi ≤ lo' ∨ hi' ≤ lo) : Kd.S d e W' b (fun k_ => lo ≤ k_ ∧ k_ < hi) v xs :=
  Kd.S_kept h hk (fun k h1 h2 => by have h3 := h1.1; have h4 := h1.2; have h5 := h2.1; have h6 := h2.2; omega)
theorem laws_FnExactRideOver.keptB {lo hi g : Nat} {o : Obj} {W W' : World} (h : W.heap[g]? = some o) (hk : Kept W W' (fun k_ => lo ≤ k_ ∧ k_ < hi)) (hne : g < lo ∨ hi ≤ g) : W'.heap[g]? = some o :=
  blk_kept h hk (fun h2 => by have h5 := h2.1; have h6 := h2.2; omega)
theorem laws_FnExactRideOver.grownB {g g' : Nat} {o : Obj} {W W' : World} (h : W.heap[g]? = some o) (hg : W.grownBy W' (some g')) (hne : g ≠ g') : W'.heap[g]? = some o :=
  (hg.block g (blk_lt h) (fun he => hne (by injection he))).trans h
theorem laws_FnExactRideOver.runs {P : Program} {W : World} {g T : Nat} {cur : Array Value} (t : TypeId) (u : Value) (new : List Value) (hb : W.heap[g]? = some (.cells cur T (0, 0))) (hu : u.cells.toList = new) (ht : (P.info? t).map (·.size) = some new.length) (hsz : new.length = cur.size) (h1 : ∀ q ∈ new, q.oneCell' = true) :
    ∃ w1, (Instr.storeAt t (.pointer (some ⟨g, 0, none⟩)) u).run P W = .ok () w1 ∧ w1.heap[g]? = some (.cells new.toArray T (0, 0)) ∧ W.grownBy w1 (some g) := by
  refine ⟨W.setCells g 0 new, run_store_run t u new hb hu ht (by omega) h1, ?_, ?_⟩
  · obtain ⟨cur', c1, c2, c3⟩ := setCells_row new 0 W cur hb (by omega)
    rw [c1]
    rw [List.take_zero, List.nil_append, Nat.zero_add, hsz, List.drop_eq_nil_of_le (by rw [Array.length_toList]; omega), List.append_nil] at c3
    rw [← c3]
  · obtain ⟨s1, s2, s3, s4⟩ := setCells_same g new 0 W
    exact ⟨s1, s2, s3, by rw [s4]; exact Nat.le_refl _, fun k _ hk => setCells_far _ _ k (fun he => hk (by rw [he]))⟩
theorem laws_FnExactRideOver.store {P : Program} {ops : Array Oper} {rest : List Oper} {o : Oper} {a : Act} {Q : Exit → Act → World → Prop} {W : World} (hgd : o.guard = none) (hN : o.dst = none) {t : TypeId} {p : Tmp} {x : Operand} (ho : o.op = .store t (.tmp p) x) (g T : Nat) (cur : Array Value) (u : Value) (new : List Value) (haddr : a.eval (.tmp p) = .pointer (some ⟨g, 0, none⟩)) (hx : a.eval x = u) (hb : W.heap[g]? = some (.cells cur T (0, 0))) (hu : u.cells.toList = new) (ht : (P.info? t).map (·.size) = some new.length) (hsz : new.length = cur.size) (h1 : ∀ q ∈ new, q.oneCell' = true)
    (h : ∀ w1, w1.heap[g]? = some (.cells new.toArray T (0, 0)) → W.grownBy w1 (some g) → wpList P ops Q rest a w1) : wpList P ops Q (o :: rest) a W := by
  obtain ⟨w1, hrun, h2, h3⟩ := laws_FnExactRideOver.runs (P := P) t u new hb hu ht hsz h1
  refine wpList_plain hgd fun K hK => ?_
  unfold Oper.wp execOp
  simp only [ho, haddr, hx, Sem.run_bind, Sem.run_pure, Result.andThen_ok, hrun]
  show K (a.put o.dst undef) _
  rw [hN]
  exact hK _ _ (h w1 h2 h3)
theorem laws_FnExactRideOver.storeK {P : Program} {ops : Array Oper} {o : Oper} {a : Act} {Q : Exit → Act → World → Prop} {Kc : Act → World → Prop} {W : World} (hw : Region.wanted o (yielded ops a.tmps) = true) (hN : o.dst = none) {t : TypeId} {p : Tmp} {x : Operand} (ho : o.op = .store t (.tmp p) x) (g T : Nat) (cur : Array Value) (u : Value) (new : List Value) (haddr : a.eval (.tmp p) = .pointer (some ⟨g, 0, none⟩)) (hx : a.eval x = u) (hb : W.heap[g]? = some (.cells cur T (0, 0))) (hu : u.cells.toList = new) (ht : (P.info? t).map (·.size) = some new.length) (hsz : new.length = cur.size) (h1 : ∀ q ∈ new, q.oneCell' = true)
    (h : ∀ w1, w1.heap[g]? = some (.cells new.toArray T (0, 0)) → W.grownBy w1 (some g) → Kc a w1) : if Region.wanted o (yielded ops a.tmps) = true then Oper.wp P o a W Kc Q else Kc (a.put none undef) W := by
  obtain ⟨w1, hrun, h2, h3⟩ := laws_FnExactRideOver.runs (P := P) t u new hb hu ht hsz h1
  rw [if_pos hw]
  unfold Oper.wp execOp
  simp only [ho, haddr, hx, Sem.run_bind, Sem.run_pure, Result.andThen_ok, hrun]
  show Kc (a.put o.dst undef) _
  rw [hN]
  exact h w1 h2 h3
def laws_FnExactRideOver.f (k : Nat) (a0_0 : Int) (l0_1 : List (List Int)) (a0_2 : Int) (l1_0 : List Bool) (a1_1 : Bool) (l2 : List Int) : Option Bool := if (l2.length : Int) > 1048576 then some true else ((laws_szKeep.f k a0_0 l0_1 a0_2 1048576).bind fun b1 => (if b1 < 0 then some true else ((laws_szBank.f l1_0 a1_1 b1).bind fun b3 => (if b3 < 0 then some true else ((laws_toKeep.f k a0_0 l0_1 a0_2).bind fun b5 => ((laws_toBank.f k l1_0 a1_1).bind fun b10 => ((laws_toIntS.f k l2).bind fun b14 => ((spec_RideOver.f k b5.1 b5.2.1 b5.2.2 b10.1 b10.2 b14).bind fun b17 => ((laws_toKeep.f k a0_0 l0_1 a0_2).bind fun b22 => ((laws_toBank.f k l1_0 a1_1).bind fun b27 => ((laws_toIntS.f k l2).bind fun b31 => ((impl_RideOver.f k b22.1 b22.2.1 b22.2.2 b27.1 b27.2 b31).bind fun b34 => ((laws_eqBank.f k b34.1 b34.2.1 b17.1 b17.2.1).bind fun b39 => (if b39 = true then (if (b34.2.2 != b17.2.2) = true then none else ((laws_toKeep.f k a0_0 l0_1 a0_2).bind fun b41 => ((laws_eqKeep.f k b22.1 b22.2.1 b22.2.2 b41.1 b41.2.1 b41.2.2).bind fun b46 => (if b46 = true then ((laws_toBank.f k l1_0 a1_1).bind fun b48 => ((laws_eqBank.f k b27.1 b27.2 b48.1 b48.2).bind fun b52 => (if b52 = true then ((laws_toIntS.f k l2).bind fun b54 => ((laws_eqIntS.f k b31 b54).bind fun b57 => (if b57 = true then ((laws_markKeep.f k b22.1 b22.2.1 b22.2.2 1).bind fun b59 => ((laws_markBank.f k b27.1 b27.2 b59.1).bind fun b62 => ((laws_markIntS.f k b31 b62.1).bind fun b65 => ((laws_eqBank.f k b34.1 b34.2.1 b17.1 b17.2.1).bind fun b68 => (if b65.1 < 0 then none else (if b68 = true then (if (b34.2.2 != b17.2.2) = true then none else ((laws_markBank.f k b34.1 b34.2.1 1).bind fun b70 => ((laws_heldBank.f k b70.2 b34.2.1 1).bind fun b73 => (if b73 < 0 then none else (if b73 = b70.1 then ((laws_toKeep.f k a0_0 l0_1 a0_2).bind fun b75 => ((laws_toBank.f k l1_0 a1_1).bind fun b80 => ((laws_toIntS.f k l2).bind fun b84 => ((impl_RideOver.f k b75.1 b75.2.1 b75.2.2 b80.1 b80.2 b84).bind fun b87 => ((laws_eqBank.f k b87.1 b87.2.1 b17.1 b17.2.1).bind fun b92 => (if b92 = true then (if (b87.2.2 != b17.2.2) = true then none else ((laws_heldBank.f k b70.2 b34.2.1 1).bind fun b94 => (if b94 < 0 then none else (if b94 = b70.1 then (some true) else none)))) else none)))))) else none))))) else none)))))) else none))) else none))) else none)))) else none))))))))))))))
set_option maxHeartbeats 16000000 in
set_option maxRecDepth 100000 in
theorem laws_FnExactRideOver.calls (k : Nat) (a0_0 : Int) (A0_1 : Option Addr) (c0_1 : Nat) (l0_1 : List (List Int)) (a0_2 : Int) (A1_0 : Option Addr) (c1_0 : Nat) (l1_0 : List Bool) (a1_1 : Bool) (A2 : Option Addr) (c2 : Nat) (l2 : List Int) (r : Bool) (w : World) (hr0_1 : Kd.C (Kd.slice 3 (Kd.int .i64)) w A0_1 l0_1.length l0_1) (hc0_1 : l0_1.length ≤ c0_1) (hr1_0 : Kd.C Kd.bool w A1_0 l1_0.length l1_0) (hc1_0 : l1_0.length ≤ c1_0) (hr2 : Kd.C (Kd.int .i64) w A2 l2.length l2) (hc2 : l2.length ≤ c2) (h : laws_FnExactRideOver.f k a0_0 l0_1 a0_2 l1_0 a1_1 l2 = some r) :
    Calls Try.prog 9 #[.agg #[.int .i64 a0_0, .slice A0_1 l0_1.length c0_1, .int .i64 a0_2], .agg #[.slice A1_0 l1_0.length c1_0, .bool a1_1], .slice A2 l2.length c2] w fun e w' => e = .returned (.bool r) ∧ Below w.heap.size w w' := by
  have hu24 := Try.underlying24
  have hu27 := Try.underlying27
  have hu35 := Try.underlying35
  have hu39 := Try.underlying39
  have HR0_1 := Aside0.mk hr0_1
  have HC0_1 := Aside0.mk hc0_1
  have HR1_0 := Aside0.mk hr1_0
  have HC1_0 := Aside0.mk hc1_0
  have HR2 := Aside0.mk hr2
  have HC2 := Aside0.mk hc2
  clear hr0_1 hc0_1 hr1_0 hc1_0 hr2 hc2
  have HB := Aside0.mk (Below.refl w.heap.size w)
  have HT := Aside0.mk (Nat.le_refl w.heap.size)
  have HN := Aside0.mk trivial
  have H := h
  unfold laws_FnExactRideOver.f at H
  clear h
  by_cases c96 : (l2.length : Int) > 1048576
  · rw [if_pos c96] at H
    have c96b0 : decide (1048576 < (l2.length : Int)) = true := decide_eq_true c96
    have c96b1 : decide (1048576 < l2.length) = true := decide_eq_true (by omega)
    clear c96
    obtain rfl := Option.some.inj H
    go_enter Try.func9, Try.ntmps9
    try go_wp2_with (first | ((with_reducible refine gate_dst (N := 3) rfl ?_); refine box_event ?hg (N := 3) ?hd (cs := #[.int .i64 a0_0, .slice A0_1 l0_1.length c0_1, .int .i64 a0_2]) (t := 24) ?hr ?_; (case hd => rfl); (case hg => rfl); (case hr => first | (go_simp; done) | (go_simp; rfl)); intro gb1 hg W1 hbox hb; have nn : w.heap.size ≤ gb1 := Nat.le_trans HT.out (Nat.le_of_eq hg.symm); have GE1 := Aside0.mk (Nat.le_trans (below_size HB.out) (Nat.le_of_eq hg.symm)); replace HB := Aside0.mk (below_step HB.out hb); replace HT := Aside0.mk (Nat.le_trans HT.out hb.size); have BK1 := Aside0.mk hbox; replace HT := Aside0.mk (Nat.succ_le_of_lt (blk_lt hbox)); replace HN := Aside0.mk (And.intro nn HN.out); clear hg hbox hb nn) | ((with_reducible refine gate_dst (N := 4) rfl ?_); refine box_event ?hg (N := 4) ?hd (cs := #[.slice A1_0 l1_0.length c1_0, .bool a1_1]) (t := 35) ?hr ?_; (case hd => rfl); (case hg => rfl); (case hr => first | (go_simp; done) | (go_simp; rfl)); intro gb2 hg W2 hbox hb; have nn : gb1.succ ≤ gb2 := Nat.le_trans HT.out (Nat.le_of_eq hg.symm); have GE2 := Aside0.mk (Nat.le_trans (below_size HB.out) (Nat.le_of_eq hg.symm)); replace BK1 := Aside0.mk (blk_below (g := gb1) (o := .cells #[.int .i64 a0_0, .slice A0_1 l0_1.length c0_1, .int .i64 a0_2] 24 (0, 0)) BK1.out hb); replace HB := Aside0.mk (below_step HB.out hb); replace HT := Aside0.mk (Nat.le_trans HT.out hb.size); have BK2 := Aside0.mk hbox; replace HT := Aside0.mk (Nat.succ_le_of_lt (blk_lt hbox)); replace HN := Aside0.mk (And.intro nn HN.out); clear hg hbox hb nn))
    go_ret
    exact ⟨by first | rfl | (simp; done) | (simp [*]; done), HB.out⟩
  rw [if_neg c96] at H
  have c96b0 : decide (1048576 < (l2.length : Int)) = false := decide_eq_false c96
  have c96b1 : decide (1048576 < l2.length) = false := decide_eq_false (by omega)
  clear c96
  obtain ⟨t2, A1_, H⟩ := Option.bind_eq_some_iff.mp H
  have A1 := Aside0.mk A1_
  clear A1_
  (try dsimp only at A1 H)
  by_cases c97 : t2 < 0
  · rw [if_pos c97] at H
    have c97b0 : decide (t2 < 0) = true := decide_eq_true c97
    clear c97
    obtain rfl := Option.some.inj H
    go_enter Try.func9, Try.ntmps9
    try go_wp2_with (first | ((with_reducible refine gate_dst (N := 3) rfl ?_); refine box_event ?hg (N := 3) ?hd (cs := #[.int .i64 a0_0, .slice A0_1 l0_1.length c0_1, .int .i64 a0_2]) (t := 24) ?hr ?_; (case hd => rfl); (case hg => rfl); (case hr => first | (go_simp; done) | (go_simp; rfl)); intro gb1 hg W3 hbox hb; have nn : w.heap.size ≤ gb1 := Nat.le_trans HT.out (Nat.le_of_eq hg.symm); have GE1 := Aside0.mk (Nat.le_trans (below_size HB.out) (Nat.le_of_eq hg.symm)); replace HB := Aside0.mk (below_step HB.out hb); replace HT := Aside0.mk (Nat.le_trans HT.out hb.size); have BK1 := Aside0.mk hbox; replace HT := Aside0.mk (Nat.succ_le_of_lt (blk_lt hbox)); replace HN := Aside0.mk (And.intro nn HN.out); clear hg hbox hb nn) | ((with_reducible refine gate_dst (N := 4) rfl ?_); refine box_event ?hg (N := 4) ?hd (cs := #[.slice A1_0 l1_0.length c1_0, .bool a1_1]) (t := 35) ?hr ?_; (case hd => rfl); (case hg => rfl); (case hr => first | (go_simp; done) | (go_simp; rfl)); intro gb2 hg W4 hbox hb; have nn : gb1.succ ≤ gb2 := Nat.le_trans HT.out (Nat.le_of_eq hg.symm); have GE2 := Aside0.mk (Nat.le_trans (below_size HB.out) (Nat.le_of_eq hg.symm)); replace BK1 := Aside0.mk (blk_below (g := gb1) (o := .cells #[.int .i64 a0_0, .slice A0_1 l0_1.length c0_1, .int .i64 a0_2] 24 (0, 0)) BK1.out hb); replace HB := Aside0.mk (below_step HB.out hb); replace HT := Aside0.mk (Nat.le_trans HT.out hb.size); have BK2 := Aside0.mk hbox; replace HT := Aside0.mk (Nat.succ_le_of_lt (blk_lt hbox)); replace HN := Aside0.mk (And.intro nn HN.out); clear hg hbox hb nn; have cz1_0 : W4.cell? ⟨gb1, 0, none⟩ = some (.int .i64 a0_0) := (blk_cell BK1.out 0).trans rfl; have cz1_1 : W4.cell? ⟨gb1, 1, none⟩ = some (.slice A0_1 l0_1.length c0_1) := (blk_cell BK1.out 1).trans rfl; have cz1_2 : W4.cell? ⟨gb1, 2, none⟩ = some (.int .i64 a0_2) := (blk_cell BK1.out 2).trans rfl) | ((with_reducible refine gate_dst (N := 25) rfl ?_); refine goesL_ (some 25) rfl rfl Try.func12 (by kernel_rfl) rfl #[.agg #[.int .i64 a0_0, .slice A0_1 l0_1.length c0_1, .int .i64 a0_2], .int .i64 1048576] rfl (by (try simp only [List.map_toArray, List.map_cons, List.map_nil]); first | done | rfl) ?_; (with_reducible refine (laws_szKeep.calls k a0_0 _ _ l0_1 a0_2 1048576 t2 _ (Kd.C_below HR0_1.out HB.out) HC0_1.out A1.out).mono ?_); rintro e W5 ⟨rfl, hb⟩; refine ⟨_, rfl, ?_⟩; replace BK1 := Aside0.mk (blk_below (g := gb1) (o := .cells #[.int .i64 a0_0, .slice A0_1 l0_1.length c0_1, .int .i64 a0_2] 24 (0, 0)) BK1.out hb); replace BK2 := Aside0.mk (blk_below (g := gb2) (o := .cells #[.slice A1_0 l1_0.length c1_0, .bool a1_1] 35 (0, 0)) BK2.out hb); replace HB := Aside0.mk (below_step HB.out hb); replace HT := Aside0.mk (Nat.le_trans HT.out hb.size); clear hb; (try clear cz1_0 cz1_1 cz1_2)))
    go_ret
    exact ⟨by first | rfl | (simp; done) | (simp [*]; done), HB.out⟩
  rw [if_neg c97] at H
  have c97b0 : decide (t2 < 0) = false := decide_eq_false c97
  clear c97
  obtain ⟨t4, A3_, H⟩ := Option.bind_eq_some_iff.mp H
  have A3 := Aside0.mk A3_
  clear A3_
  (try dsimp only at A3 H)
  by_cases c98 : t4 < 0
  · rw [if_pos c98] at H
    have c98b0 : decide (t4 < 0) = true := decide_eq_true c98
    clear c98
    obtain rfl := Option.some.inj H
    go_enter Try.func9, Try.ntmps9
    try go_wp2_with (first | ((with_reducible refine gate_dst (N := 3) rfl ?_); refine box_event ?hg (N := 3) ?hd (cs := #[.int .i64 a0_0, .slice A0_1 l0_1.length c0_1, .int .i64 a0_2]) (t := 24) ?hr ?_; (case hd => rfl); (case hg => rfl); (case hr => first | (go_simp; done) | (go_simp; rfl)); intro gb1 hg W6 hbox hb; have nn : w.heap.size ≤ gb1 := Nat.le_trans HT.out (Nat.le_of_eq hg.symm); have GE1 := Aside0.mk (Nat.le_trans (below_size HB.out) (Nat.le_of_eq hg.symm)); replace HB := Aside0.mk (below_step HB.out hb); replace HT := Aside0.mk (Nat.le_trans HT.out hb.size); have BK1 := Aside0.mk hbox; replace HT := Aside0.mk (Nat.succ_le_of_lt (blk_lt hbox)); replace HN := Aside0.mk (And.intro nn HN.out); clear hg hbox hb nn) | ((with_reducible refine gate_dst (N := 4) rfl ?_); refine box_event ?hg (N := 4) ?hd (cs := #[.slice A1_0 l1_0.length c1_0, .bool a1_1]) (t := 35) ?hr ?_; (case hd => rfl); (case hg => rfl); (case hr => first | (go_simp; done) | (go_simp; rfl)); intro gb2 hg W7 hbox hb; have nn : gb1.succ ≤ gb2 := Nat.le_trans HT.out (Nat.le_of_eq hg.symm); have GE2 := Aside0.mk (Nat.le_trans (below_size HB.out) (Nat.le_of_eq hg.symm)); replace BK1 := Aside0.mk (blk_below (g := gb1) (o := .cells #[.int .i64 a0_0, .slice A0_1 l0_1.length c0_1, .int .i64 a0_2] 24 (0, 0)) BK1.out hb); replace HB := Aside0.mk (below_step HB.out hb); replace HT := Aside0.mk (Nat.le_trans HT.out hb.size); have BK2 := Aside0.mk hbox; replace HT := Aside0.mk (Nat.succ_le_of_lt (blk_lt hbox)); replace HN := Aside0.mk (And.intro nn HN.out); clear hg hbox hb nn; have cz1_0 : W7.cell? ⟨gb1, 0, none⟩ = some (.int .i64 a0_0) := (blk_cell BK1.out 0).trans rfl; have cz1_1 : W7.cell? ⟨gb1, 1, none⟩ = some (.slice A0_1 l0_1.length c0_1) := (blk_cell BK1.out 1).trans rfl; have cz1_2 : W7.cell? ⟨gb1, 2, none⟩ = some (.int .i64 a0_2) := (blk_cell BK1.out 2).trans rfl) | ((with_reducible refine gate_dst (N := 25) rfl ?_); refine goesL_ (some 25) rfl rfl Try.func12 (by kernel_rfl) rfl #[.agg #[.int .i64 a0_0, .slice A0_1 l0_1.length c0_1, .int .i64 a0_2], .int .i64 1048576] rfl (by (try simp only [List.map_toArray, List.map_cons, List.map_nil]); first | done | rfl) ?_; (with_reducible refine (laws_szKeep.calls k a0_0 _ _ l0_1 a0_2 1048576 t2 _ (Kd.C_below HR0_1.out HB.out) HC0_1.out A1.out).mono ?_); rintro e W8 ⟨rfl, hb⟩; refine ⟨_, rfl, ?_⟩; replace BK1 := Aside0.mk (blk_below (g := gb1) (o := .cells #[.int .i64 a0_0, .slice A0_1 l0_1.length c0_1, .int .i64 a0_2] 24 (0, 0)) BK1.out hb); replace BK2 := Aside0.mk (blk_below (g := gb2) (o := .cells #[.slice A1_0 l1_0.length c1_0, .bool a1_1] 35 (0, 0)) BK2.out hb); replace HB := Aside0.mk (below_step HB.out hb); replace HT := Aside0.mk (Nat.le_trans HT.out hb.size); clear hb; (try clear cz1_0 cz1_1 cz1_2); have cz2_0 : W8.cell? ⟨gb2, 0, none⟩ = some (.slice A1_0 l1_0.length c1_0) := (blk_cell BK2.out 0).trans rfl; have cz2_1 : W8.cell? ⟨gb2, 1, none⟩ = some (.bool a1_1) := (blk_cell BK2.out 1).trans rfl) | ((with_reducible refine gate_dst (N := 30) rfl ?_); refine goesL_ (some 30) rfl rfl Try.func19 (by kernel_rfl) rfl #[.agg #[.slice A1_0 l1_0.length c1_0, .bool a1_1], .int .i64 t2] rfl (by (try simp only [List.map_toArray, List.map_cons, List.map_nil]); first | done | rfl) ?_; (with_reducible refine (laws_szBank.calls _ _ l1_0 a1_1 t2 t4 _ (Kd.C_below HR1_0.out HB.out) HC1_0.out A3.out).mono ?_); rintro e W9 ⟨rfl, hb⟩; refine ⟨_, rfl, ?_⟩; replace BK1 := Aside0.mk (blk_below (g := gb1) (o := .cells #[.int .i64 a0_0, .slice A0_1 l0_1.length c0_1, .int .i64 a0_2] 24 (0, 0)) BK1.out hb); replace BK2 := Aside0.mk (blk_below (g := gb2) (o := .cells #[.slice A1_0 l1_0.length c1_0, .bool a1_1] 35 (0, 0)) BK2.out hb); replace HB := Aside0.mk (below_step HB.out hb); replace HT := Aside0.mk (Nat.le_trans HT.out hb.size); clear hb; (try clear cz2_0 cz2_1)))
    go_ret
    exact ⟨by first | rfl | (simp; done) | (simp [*]; done), HB.out⟩
  rw [if_neg c98] at H
  have c98b0 : decide (t4 < 0) = false := decide_eq_false c98
  clear c98
  obtain ⟨⟨t6, t7, t8⟩, A5_, H⟩ := Option.bind_eq_some_iff.mp H
  have A5 := Aside0.mk A5_
  clear A5_
  (try dsimp only at A5 H)
  obtain ⟨⟨t11, t12⟩, A10_, H⟩ := Option.bind_eq_some_iff.mp H
  have A10 := Aside0.mk A10_
  clear A10_
  (try dsimp only at A10 H)
  obtain ⟨t15, A14_, H⟩ := Option.bind_eq_some_iff.mp H
  have A14 := Aside0.mk A14_
  clear A14_
  (try dsimp only at A14 H)
  obtain ⟨⟨t18, t19, t20⟩, A17_, H⟩ := Option.bind_eq_some_iff.mp H
  have A17 := Aside0.mk A17_
  clear A17_
  (try dsimp only at A17 H)
  obtain ⟨⟨t23, t24, t25⟩, A22_, H⟩ := Option.bind_eq_some_iff.mp H
  have A22 := Aside0.mk A22_
  clear A22_
  (try dsimp only at A22 H)
  obtain ⟨⟨t28, t29⟩, A27_, H⟩ := Option.bind_eq_some_iff.mp H
  have A27 := Aside0.mk A27_
  clear A27_
  (try dsimp only at A27 H)
  obtain ⟨t32, A31_, H⟩ := Option.bind_eq_some_iff.mp H
  have A31 := Aside0.mk A31_
  clear A31_
  (try dsimp only at A31 H)
  obtain ⟨⟨t35, t36, t37⟩, A34_, H⟩ := Option.bind_eq_some_iff.mp H
  have A34 := Aside0.mk A34_
  clear A34_
  (try dsimp only at A34 H)
  obtain ⟨t40, A39_, H⟩ := Option.bind_eq_some_iff.mp H
  have A39 := Aside0.mk A39_
  clear A39_
  (try dsimp only at A39 H)
  rcases t40 with _ | _
  · rw [if_neg (by decide)] at H; cases H
  rw [if_pos rfl] at H
  by_cases c99 : (t37 != t20) = true
  · rw [if_pos c99] at H; cases H
  rw [if_neg c99] at H
  have c99b0 : (t37 != t20) = false := by simpa using c99
  have c99b1 : decide (t37 = t20) = true := by simpa using c99
  have c99b2 : (t37 == t20) = true := by simpa using c99
  clear c99
  obtain ⟨⟨t42, t43, t44⟩, A41_, H⟩ := Option.bind_eq_some_iff.mp H
  have A41 := Aside0.mk A41_
  clear A41_
  (try dsimp only at A41 H)
  obtain ⟨t47, A46_, H⟩ := Option.bind_eq_some_iff.mp H
  have A46 := Aside0.mk A46_
  clear A46_
  (try dsimp only at A46 H)
  rcases t47 with _ | _
  · rw [if_neg (by decide)] at H; cases H
  rw [if_pos rfl] at H
  obtain ⟨⟨t49, t50⟩, A48_, H⟩ := Option.bind_eq_some_iff.mp H
  have A48 := Aside0.mk A48_
  clear A48_
  (try dsimp only at A48 H)
  obtain ⟨t53, A52_, H⟩ := Option.bind_eq_some_iff.mp H
  have A52 := Aside0.mk A52_
  clear A52_
  (try dsimp only at A52 H)
  rcases t53 with _ | _
  · rw [if_neg (by decide)] at H; cases H
  rw [if_pos rfl] at H
  obtain ⟨t55, A54_, H⟩ := Option.bind_eq_some_iff.mp H
  have A54 := Aside0.mk A54_
  clear A54_
  (try dsimp only at A54 H)
  obtain ⟨t58, A57_, H⟩ := Option.bind_eq_some_iff.mp H
  have A57 := Aside0.mk A57_
  clear A57_
  (try dsimp only at A57 H)
  rcases t58 with _ | _
  · rw [if_neg (by decide)] at H; cases H
  rw [if_pos rfl] at H
  obtain ⟨⟨t60, t61⟩, A59_, H⟩ := Option.bind_eq_some_iff.mp H
  have A59 := Aside0.mk A59_
  clear A59_
  (try dsimp only at A59 H)
  obtain ⟨⟨t63, t64⟩, A62_, H⟩ := Option.bind_eq_some_iff.mp H
  have A62 := Aside0.mk A62_
  clear A62_
  (try dsimp only at A62 H)
  obtain ⟨⟨t66, t67⟩, A65_, H⟩ := Option.bind_eq_some_iff.mp H
  have A65 := Aside0.mk A65_
  clear A65_
  (try dsimp only at A65 H)
  obtain ⟨t69, A68_, H⟩ := Option.bind_eq_some_iff.mp H
  have A68 := Aside0.mk A68_
  clear A68_
  (try dsimp only at A68 H)
  by_cases c100 : t66 < 0
  · rw [if_pos c100] at H; cases H
  rw [if_neg c100] at H
  have c100b0 : decide (t66 < 0) = false := decide_eq_false c100
  clear c100
  rcases t69 with _ | _
  · rw [if_neg (by decide)] at H; cases H
  rw [if_pos rfl] at H
  by_cases c101 : (t37 != t20) = true
  · rw [if_pos c101] at H; cases H
  rw [if_neg c101] at H
  have c101b0 : (t37 != t20) = false := by simpa using c101
  have c101b1 : decide (t37 = t20) = true := by simpa using c101
  have c101b2 : (t37 == t20) = true := by simpa using c101
  clear c101
  obtain ⟨⟨t71, t72⟩, A70_, H⟩ := Option.bind_eq_some_iff.mp H
  have A70 := Aside0.mk A70_
  clear A70_
  (try dsimp only at A70 H)
  obtain ⟨t74, A73_, H⟩ := Option.bind_eq_some_iff.mp H
  have A73 := Aside0.mk A73_
  clear A73_
  (try dsimp only at A73 H)
  by_cases c102 : t74 < 0
  · rw [if_pos c102] at H; cases H
  rw [if_neg c102] at H
  have c102b0 : decide (t74 < 0) = false := decide_eq_false c102
  clear c102
  by_cases c103 : t74 = t71
  rotate_left
  · rw [if_neg c103] at H; cases H
  rw [if_pos c103] at H
  have c103b0 : (t74 == t71) = true := beq_iff_eq.mpr c103
  have c103b1 : (t74 != t71) = false := bne_eq_false_iff_eq.mpr c103
  clear c103
  obtain ⟨⟨t76, t77, t78⟩, A75_, H⟩ := Option.bind_eq_some_iff.mp H
  have A75 := Aside0.mk A75_
  clear A75_
  (try dsimp only at A75 H)
  obtain ⟨⟨t81, t82⟩, A80_, H⟩ := Option.bind_eq_some_iff.mp H
  have A80 := Aside0.mk A80_
  clear A80_
  (try dsimp only at A80 H)
  obtain ⟨t85, A84_, H⟩ := Option.bind_eq_some_iff.mp H
  have A84 := Aside0.mk A84_
  clear A84_
  (try dsimp only at A84 H)
  obtain ⟨⟨t88, t89, t90⟩, A87_, H⟩ := Option.bind_eq_some_iff.mp H
  have A87 := Aside0.mk A87_
  clear A87_
  (try dsimp only at A87 H)
  obtain ⟨t93, A92_, H⟩ := Option.bind_eq_some_iff.mp H
  have A92 := Aside0.mk A92_
  clear A92_
  (try dsimp only at A92 H)
  rcases t93 with _ | _
  · rw [if_neg (by decide)] at H; cases H
  rw [if_pos rfl] at H
  by_cases c104 : (t90 != t20) = true
  · rw [if_pos c104] at H; cases H
  rw [if_neg c104] at H
  have c104b0 : (t90 != t20) = false := by simpa using c104
  have c104b1 : decide (t90 = t20) = true := by simpa using c104
  have c104b2 : (t90 == t20) = true := by simpa using c104
  clear c104
  obtain ⟨t95, A94_, H⟩ := Option.bind_eq_some_iff.mp H
  have A94 := Aside0.mk A94_
  clear A94_
  (try dsimp only at A94 H)
  by_cases c105 : t95 < 0
  · rw [if_pos c105] at H; cases H
  rw [if_neg c105] at H
  have c105b0 : decide (t95 < 0) = false := decide_eq_false c105
  clear c105
  by_cases c106 : t95 = t71
  rotate_left
  · rw [if_neg c106] at H; cases H
  rw [if_pos c106] at H
  have c106b0 : (t95 == t71) = true := beq_iff_eq.mpr c106
  have c106b1 : (t95 != t71) = false := bne_eq_false_iff_eq.mpr c106
  clear c106
  obtain rfl := Option.some.inj H
  clear H
  go_enter Try.func9, Try.ntmps9
  try go_wp2_with (first | ((with_reducible refine gate_dst (N := 3) rfl ?_); refine box_event ?hg (N := 3) ?hd (cs := #[.int .i64 a0_0, .slice A0_1 l0_1.length c0_1, .int .i64 a0_2]) (t := 24) ?hr ?_; (case hd => rfl); (case hg => rfl); (case hr => first | (go_simp; done) | (go_simp; rfl)); intro gb1 hg W10 hbox hb; have nn : w.heap.size ≤ gb1 := Nat.le_trans HT.out (Nat.le_of_eq hg.symm); have GE1 := Aside0.mk (Nat.le_trans (below_size HB.out) (Nat.le_of_eq hg.symm)); replace HB := Aside0.mk (below_step HB.out hb); replace HT := Aside0.mk (Nat.le_trans HT.out hb.size); have BK1 := Aside0.mk hbox; replace HT := Aside0.mk (Nat.succ_le_of_lt (blk_lt hbox)); replace HN := Aside0.mk (And.intro nn HN.out); clear hg hbox hb nn) | ((with_reducible refine gate_dst (N := 4) rfl ?_); refine box_event ?hg (N := 4) ?hd (cs := #[.slice A1_0 l1_0.length c1_0, .bool a1_1]) (t := 35) ?hr ?_; (case hd => rfl); (case hg => rfl); (case hr => first | (go_simp; done) | (go_simp; rfl)); intro gb2 hg W11 hbox hb; have nn : gb1.succ ≤ gb2 := Nat.le_trans HT.out (Nat.le_of_eq hg.symm); have GE2 := Aside0.mk (Nat.le_trans (below_size HB.out) (Nat.le_of_eq hg.symm)); replace BK1 := Aside0.mk (blk_below (g := gb1) (o := .cells #[.int .i64 a0_0, .slice A0_1 l0_1.length c0_1, .int .i64 a0_2] 24 (0, 0)) BK1.out hb); replace HB := Aside0.mk (below_step HB.out hb); replace HT := Aside0.mk (Nat.le_trans HT.out hb.size); have BK2 := Aside0.mk hbox; replace HT := Aside0.mk (Nat.succ_le_of_lt (blk_lt hbox)); replace HN := Aside0.mk (And.intro nn HN.out); clear hg hbox hb nn; have cz1_0 : W11.cell? ⟨gb1, 0, none⟩ = some (.int .i64 a0_0) := (blk_cell BK1.out 0).trans rfl; have cz1_1 : W11.cell? ⟨gb1, 1, none⟩ = some (.slice A0_1 l0_1.length c0_1) := (blk_cell BK1.out 1).trans rfl; have cz1_2 : W11.cell? ⟨gb1, 2, none⟩ = some (.int .i64 a0_2) := (blk_cell BK1.out 2).trans rfl) | ((with_reducible refine gate_dst (N := 25) rfl ?_); refine goesL_ (some 25) rfl rfl Try.func12 (by kernel_rfl) rfl #[.agg #[.int .i64 a0_0, .slice A0_1 l0_1.length c0_1, .int .i64 a0_2], .int .i64 1048576] rfl (by (try simp only [List.map_toArray, List.map_cons, List.map_nil]); first | done | rfl) ?_; (with_reducible refine (laws_szKeep.calls k a0_0 _ _ l0_1 a0_2 1048576 t2 _ (Kd.C_below HR0_1.out HB.out) HC0_1.out A1.out).mono ?_); rintro e W12 ⟨rfl, hb⟩; refine ⟨_, rfl, ?_⟩; replace BK1 := Aside0.mk (blk_below (g := gb1) (o := .cells #[.int .i64 a0_0, .slice A0_1 l0_1.length c0_1, .int .i64 a0_2] 24 (0, 0)) BK1.out hb); replace BK2 := Aside0.mk (blk_below (g := gb2) (o := .cells #[.slice A1_0 l1_0.length c1_0, .bool a1_1] 35 (0, 0)) BK2.out hb); replace HB := Aside0.mk (below_step HB.out hb); replace HT := Aside0.mk (Nat.le_trans HT.out hb.size); clear hb; (try clear cz1_0 cz1_1 cz1_2); have cz2_0 : W12.cell? ⟨gb2, 0, none⟩ = some (.slice A1_0 l1_0.length c1_0) := (blk_cell BK2.out 0).trans rfl; have cz2_1 : W12.cell? ⟨gb2, 1, none⟩ = some (.bool a1_1) := (blk_cell BK2.out 1).trans rfl) | ((with_reducible refine gate_dst (N := 30) rfl ?_); refine goesL_ (some 30) rfl rfl Try.func19 (by kernel_rfl) rfl #[.agg #[.slice A1_0 l1_0.length c1_0, .bool a1_1], .int .i64 t2] rfl (by (try simp only [List.map_toArray, List.map_cons, List.map_nil]); first | done | rfl) ?_; (with_reducible refine (laws_szBank.calls _ _ l1_0 a1_1 t2 t4 _ (Kd.C_below HR1_0.out HB.out) HC1_0.out A3.out).mono ?_); rintro e W13 ⟨rfl, hb⟩; refine ⟨_, rfl, ?_⟩; replace BK1 := Aside0.mk (blk_below (g := gb1) (o := .cells #[.int .i64 a0_0, .slice A0_1 l0_1.length c0_1, .int .i64 a0_2] 24 (0, 0)) BK1.out hb); replace BK2 := Aside0.mk (blk_below (g := gb2) (o := .cells #[.slice A1_0 l1_0.length c1_0, .bool a1_1] 35 (0, 0)) BK2.out hb); replace HB := Aside0.mk (below_step HB.out hb); replace HT := Aside0.mk (Nat.le_trans HT.out hb.size); clear hb; (try clear cz2_0 cz2_1)))
  have hb : Below W13.heap.size W13 W13.drew := below_drew (Below.refl _ _)
  replace BK1 := Aside0.mk (blk_below (g := gb1) (o := .cells #[.int .i64 a0_0, .slice A0_1 l0_1.length c0_1, .int .i64 a0_2] 24 (0, 0)) BK1.out hb)
  replace BK2 := Aside0.mk (blk_below (g := gb2) (o := .cells #[.slice A1_0 l1_0.length c1_0, .bool a1_1] 35 (0, 0)) BK2.out hb)
  replace HB := Aside0.mk (below_step HB.out hb)
  replace HT := Aside0.mk (Nat.le_trans HT.out hb.size)
  clear hb
  refine start_ (n := 13) (S := fun w' => w'.cell? ⟨gb1, 0, none⟩ = some (.int .i64 a0_0) ∧ w'.cell? ⟨gb1, 1, none⟩ = some (.slice A0_1 l0_1.length c0_1) ∧ w'.cell? ⟨gb1, 2, none⟩ = some (.int .i64 a0_2) ∧ w'.cell? ⟨gb2, 0, none⟩ = some (.slice A1_0 l1_0.length c1_0) ∧ w'.cell? ⟨gb2, 1, none⟩ = some (.bool a1_1)) (ds := []) #[false, false, false, false, false, false, false, false, false, false, false, false, false] (by kernel_rfl) rfl rfl ⟨(blk_cell BK1.out 0).trans rfl, (blk_cell BK1.out 1).trans rfl, (blk_cell BK1.out 2).trans rfl, (blk_cell BK2.out 0).trans rfl, (blk_cell BK2.out 1).trans rfl⟩ (fun hHeld => ?_)
  generalize W13.drew = W14 at BK1 BK2 HB HT hHeld ⊢
  refine take_ (i := 0) (N := some 34) (v := ?_) (a' := ?_) #[true, false, false, false, false, false, false, false, false, false, false, false, false] rfl rfl (by kernel_rfl) (fun _ _ _ h => h) (Or.inl ⟨by rfl, ?_⟩) hHeld ?_ ?_
  rotate_left
  · rintro w' ⟨s0, s1, s2, s3, s4⟩
    go_simp
    with_reducible rfl
  rotate_left
  · simp only [Act.put, List.setIfInBounds_toArray, List.set_cons_zero, List.set_cons_succ, i64_w, i32_w]
    rfl
  refine take_ (i := 2) (N := some 36) (v := ?_) (a' := ?_) #[true, false, true, false, false, false, false, false, false, false, false, false, false] rfl rfl (by kernel_rfl) (fun _ _ _ h => h) (Or.inl ⟨by rfl, ?_⟩) hHeld ?_ ?_
  rotate_left
  · rintro w' ⟨s0, s1, s2, s3, s4⟩
    go_simp
    with_reducible rfl
  rotate_left
  · simp only [Act.put, List.setIfInBounds_toArray, List.set_cons_zero, List.set_cons_succ, i64_w, i32_w]
    rfl
  refine pure_ (i := 4) (N := some 38) (v := ?_) (a' := ?_) #[true, false, true, false, true, false, false, false, false, false, false, false, false] rfl rfl (by kernel_rfl) (fun _ _ _ h => h) (Or.inl ⟨by rfl, ?_⟩) ?_ ?_
  rotate_left
  · intro w'
    go_simp
    with_reducible rfl
  rotate_left
  · simp only [Act.put, List.setIfInBounds_toArray, List.set_cons_zero, List.set_cons_succ, i64_w, i32_w]
    rfl
  refine join_ (σ := Option Addr × Nat × Option Addr × Nat × Option Addr × Nat × Option Addr × Nat × Nat) 2 #[true, true, true, true, true, true, true, true, true, true, true, false, false] (fun s => [(35, .agg #[.int .i64 t6, .slice s.1 t7.length s.2.1, .int .i64 t8]), (37, .agg #[.slice s.2.2.1 t11.length s.2.2.2.1, .bool t12]), (39, .slice s.2.2.2.2.1 t15.length s.2.2.2.2.2.1), (40, .tuple #[.agg #[.slice s.2.2.2.2.2.2.1 t18.length s.2.2.2.2.2.2.2.1, .bool t19], .bool t20]), (33, .tuple #[.agg #[.slice s.2.2.2.2.2.2.1 t18.length s.2.2.2.2.2.2.2.1, .bool t19], .bool t20]), (41, .agg #[.slice s.2.2.2.2.2.2.1 t18.length s.2.2.2.2.2.2.2.1, .bool t19]), (42, .bool t20), (8, .pointer (some ⟨s.2.2.2.2.2.2.2.2, 0, none⟩))]) (fun s w' => ∃ lo21 hi21 T_ : Nat, Aside0 (Kd.R Kd.bool 4 w' w.heap.size (fun k_ => lo21 ≤ k_ ∧ k_ < hi21) (.slice s.2.2.2.2.2.2.1 t18.length s.2.2.2.2.2.2.2.1) t18) ∧ Aside0 (w'.heap[gb1]? = some (.cells #[.int .i64 a0_0, .slice A0_1 l0_1.length c0_1, .int .i64 a0_2] 24 (0, 0))) ∧ Aside0 (w'.heap[gb2]? = some (.cells #[.slice A1_0 l1_0.length c1_0, .bool a1_1] 35 (0, 0))) ∧ Aside0 (w'.heap[s.2.2.2.2.2.2.2.2]? = some (.cells #[.slice none 0 0, .bool false] 39 (0, 0))) ∧ Aside0 (Below w.heap.size w w') ∧ Aside0 (T_ ≤ w'.heap.size) ∧ Aside0 (w.heap.size ≤ s.2.2.2.2.2.2.2.2) ∧ Aside0 (gb2.succ ≤ s.2.2.2.2.2.2.2.2 ∧ s.2.2.2.2.2.2.2.2 < T_ ∧ gb2.succ ≤ lo21 ∧ lo21 ≤ hi21 ∧ hi21 ≤ T_ ∧ (s.2.2.2.2.2.2.2.2 < lo21 ∨ hi21 ≤ s.2.2.2.2.2.2.2.2))) ?_ ?_
  rotate_left
  · intro hJ4
    refine join_ (σ := Option Addr × Nat × Option Addr × Nat × Option Addr × Nat × Nat) 6 #[true, true, true, true, true, true, false, false, false, false, true, false, false] (fun s => [(35, .agg #[.int .i64 t6, .slice s.1 t7.length s.2.1, .int .i64 t8]), (37, .agg #[.slice s.2.2.1 t11.length s.2.2.2.1, .bool t12]), (39, .slice s.2.2.2.2.1 t15.length s.2.2.2.2.2.1), (8, .pointer (some ⟨s.2.2.2.2.2.2, 0, none⟩))]) (fun s w' => ∃ lo9 hi9 lo13 hi13 lo16 hi16 T_ : Nat, Aside0 (Kd.S (Kd.slice 3 (Kd.int .i64)) 51 w' w.heap.size (fun k_ => lo9 ≤ k_ ∧ k_ < hi9) (.slice s.1 t7.length s.2.1) t7) ∧ Aside0 (Kd.R Kd.bool 4 w' w.heap.size (fun k_ => lo13 ≤ k_ ∧ k_ < hi13) (.slice s.2.2.1 t11.length s.2.2.2.1) t11) ∧ Aside0 (Kd.R (Kd.int .i64) 3 w' w.heap.size (fun k_ => lo16 ≤ k_ ∧ k_ < hi16) (.slice s.2.2.2.2.1 t15.length s.2.2.2.2.2.1) t15) ∧ Aside0 (w'.heap[gb1]? = some (.cells #[.int .i64 a0_0, .slice A0_1 l0_1.length c0_1, .int .i64 a0_2] 24 (0, 0))) ∧ Aside0 (w'.heap[gb2]? = some (.cells #[.slice A1_0 l1_0.length c1_0, .bool a1_1] 35 (0, 0))) ∧ Aside0 (w'.heap[s.2.2.2.2.2.2]? = some (.cells #[.slice none 0 0, .bool false] 39 (0, 0))) ∧ Aside0 (Below w.heap.size w w') ∧ Aside0 (T_ ≤ w'.heap.size) ∧ Aside0 (w.heap.size ≤ s.2.2.2.2.2.2) ∧ Aside0 (gb2.succ ≤ s.2.2.2.2.2.2 ∧ s.2.2.2.2.2.2 < T_ ∧ gb2.succ ≤ lo9 ∧ lo9 ≤ hi9 ∧ hi9 ≤ T_ ∧ (s.2.2.2.2.2.2 < lo9 ∨ hi9 ≤ s.2.2.2.2.2.2) ∧ gb2.succ ≤ lo13 ∧ lo13 ≤ hi13 ∧ hi13 ≤ T_ ∧ (s.2.2.2.2.2.2 < lo13 ∨ hi13 ≤ s.2.2.2.2.2.2) ∧ gb2.succ ≤ lo16 ∧ lo16 ≤ hi16 ∧ hi16 ≤ T_ ∧ (s.2.2.2.2.2.2 < lo16 ∨ hi16 ≤ s.2.2.2.2.2.2) ∧ hi9 ≤ lo13 ∧ hi9 ≤ lo16 ∧ hi13 ≤ lo16)) ?_ ?_
    rotate_left
    · intro hJ3
      refine join_ (σ := Option Addr × Nat × Option Addr × Nat × Nat) 7 #[true, true, true, true, true, false, false, false, false, false, true, false, false] (fun s => [(35, .agg #[.int .i64 t6, .slice s.1 t7.length s.2.1, .int .i64 t8]), (37, .agg #[.slice s.2.2.1 t11.length s.2.2.2.1, .bool t12]), (8, .pointer (some ⟨s.2.2.2.2, 0, none⟩))]) (fun s w' => ∃ lo9 hi9 lo13 hi13 T_ : Nat, Aside0 (Kd.S (Kd.slice 3 (Kd.int .i64)) 51 w' w.heap.size (fun k_ => lo9 ≤ k_ ∧ k_ < hi9) (.slice s.1 t7.length s.2.1) t7) ∧ Aside0 (Kd.R Kd.bool 4 w' w.heap.size (fun k_ => lo13 ≤ k_ ∧ k_ < hi13) (.slice s.2.2.1 t11.length s.2.2.2.1) t11) ∧ Aside0 (w'.heap[gb1]? = some (.cells #[.int .i64 a0_0, .slice A0_1 l0_1.length c0_1, .int .i64 a0_2] 24 (0, 0))) ∧ Aside0 (w'.heap[gb2]? = some (.cells #[.slice A1_0 l1_0.length c1_0, .bool a1_1] 35 (0, 0))) ∧ Aside0 (w'.heap[s.2.2.2.2]? = some (.cells #[.slice none 0 0, .bool false] 39 (0, 0))) ∧ Aside0 (Below w.heap.size w w') ∧ Aside0 (T_ ≤ w'.heap.size) ∧ Aside0 (w.heap.size ≤ s.2.2.2.2) ∧ Aside0 (gb2.succ ≤ s.2.2.2.2 ∧ s.2.2.2.2 < T_ ∧ gb2.succ ≤ lo9 ∧ lo9 ≤ hi9 ∧ hi9 ≤ T_ ∧ (s.2.2.2.2 < lo9 ∨ hi9 ≤ s.2.2.2.2) ∧ gb2.succ ≤ lo13 ∧ lo13 ≤ hi13 ∧ hi13 ≤ T_ ∧ (s.2.2.2.2 < lo13 ∨ hi13 ≤ s.2.2.2.2) ∧ hi9 ≤ lo13)) ?_ ?_
      rotate_left
      · intro hJ2
        refine join_ (σ := Option Addr × Nat × Nat) 8 #[true, true, true, false, true, false, false, false, false, false, true, false, false] (fun s => [(35, .agg #[.int .i64 t6, .slice s.1 t7.length s.2.1, .int .i64 t8]), (8, .pointer (some ⟨s.2.2, 0, none⟩))]) (fun s w' => ∃ lo9 hi9 T_ : Nat, Aside0 (Kd.S (Kd.slice 3 (Kd.int .i64)) 51 w' w.heap.size (fun k_ => lo9 ≤ k_ ∧ k_ < hi9) (.slice s.1 t7.length s.2.1) t7) ∧ Aside0 (w'.heap[gb1]? = some (.cells #[.int .i64 a0_0, .slice A0_1 l0_1.length c0_1, .int .i64 a0_2] 24 (0, 0))) ∧ Aside0 (w'.heap[gb2]? = some (.cells #[.slice A1_0 l1_0.length c1_0, .bool a1_1] 35 (0, 0))) ∧ Aside0 (w'.heap[s.2.2]? = some (.cells #[.slice none 0 0, .bool false] 39 (0, 0))) ∧ Aside0 (Below w.heap.size w w') ∧ Aside0 (T_ ≤ w'.heap.size) ∧ Aside0 (w.heap.size ≤ s.2.2) ∧ Aside0 (gb2.succ ≤ s.2.2 ∧ s.2.2 < T_ ∧ gb2.succ ≤ lo9 ∧ lo9 ≤ hi9 ∧ hi9 ≤ T_ ∧ (s.2.2 < lo9 ∨ hi9 ≤ s.2.2))) ?_ ?_
        rotate_left
        · intro hJ1
          refine join_ (σ := Nat) 9 #[true, false, true, false, true, false, false, false, false, false, true, false, false] (fun s => [(8, .pointer (some ⟨s, 0, none⟩))]) (fun s w' => ∃ T_ : Nat, Aside0 (w'.heap[gb1]? = some (.cells #[.int .i64 a0_0, .slice A0_1 l0_1.length c0_1, .int .i64 a0_2] 24 (0, 0))) ∧ Aside0 (w'.heap[gb2]? = some (.cells #[.slice A1_0 l1_0.length c1_0, .bool a1_1] 35 (0, 0))) ∧ Aside0 (w'.heap[s]? = some (.cells #[.slice none 0 0, .bool false] 39 (0, 0))) ∧ Aside0 (Below w.heap.size w w') ∧ Aside0 (T_ ≤ w'.heap.size) ∧ Aside0 (w.heap.size ≤ s) ∧ Aside0 (gb2.succ ≤ s ∧ s < T_)) ?_ ?_
          rotate_left
          · intro hJ0
            refine two_ (i := 1) (j := 10) (Ni := some 35) (Nj := some 8) #[true, true, true, false, true, false, false, false, false, false, false, false, false] #[true, false, true, false, true, false, false, false, false, false, true, false, false] rfl rfl rfl rfl (by kernel_rfl) (by decide) (by decide) (fun K hK => ?_) (fun K hK => ?_)
            · skip
              refine goes_ Try.func14 (by kernel_rfl) rfl #[.agg #[.int .i64 a0_0, .slice A0_1 l0_1.length c0_1, .int .i64 a0_2]] (by rfl) rfl rfl (by (try simp only [List.map_toArray, List.map_cons, List.map_nil]); first | done | rfl) ?_
              with_reducible refine (laws_toKeep.calls k a0_0 _ _ l0_1 a0_2 t6 t7 t8 _ (Kd.C_below HR0_1.out HB.out) HC0_1.out A5.out).mono ?_
              rintro e W15 ⟨v9, rfl, ho9, hb⟩
              refine ⟨_, rfl, ?_⟩
              obtain ⟨B9, d9, e_⟩ := Kd.S_slice ho9
              subst e_
              obtain ⟨lo9, hi9, nn, ht_, hO9⟩ := laws_FnExactRideOver.newS ho9 HT.out (below_size HB.out) hb.size
              replace BK1 := Aside0.mk (blk_below (g := gb1) (o := .cells #[.int .i64 a0_0, .slice A0_1 l0_1.length c0_1, .int .i64 a0_2] 24 (0, 0)) BK1.out hb)
              replace BK2 := Aside0.mk (blk_below (g := gb2) (o := .cells #[.slice A1_0 l1_0.length c1_0, .bool a1_1] 35 (0, 0)) BK2.out hb)
              replace HB := Aside0.mk (below_step HB.out hb)
              replace HT := Aside0.mk (Nat.le_trans HT.out hb.size)
              have HO9 := Aside0.mk hO9
              replace HT := Aside0.mk ht_
              replace HN := Aside0.mk (And.intro nn HN.out)
              clear ho9 hO9 nn ht_
              clear hb
              refine hK.out _ _ ⟨(blk_cell BK1.out 0).trans rfl, (blk_cell BK1.out 1).trans rfl, (blk_cell BK1.out 2).trans rfl, (blk_cell BK2.out 0).trans rfl, (blk_cell BK2.out 1).trans rfl⟩ (fun hHeld => ?_)
              clear hK K
              refine norm_ (a' := ?_) ?_ ?_
              rotate_left
              · show Act.put _ (some 35) _ = _
                simp only [Act.put, List.setIfInBounds_toArray, List.set_cons_zero, List.set_cons_succ, i64_w, i32_w]
                rfl
              refine two_ (i := 3) (j := 10) (Ni := some 37) (Nj := some 8) #[true, true, true, true, true, false, false, false, false, false, false, false, false] #[true, true, true, false, true, false, false, false, false, false, true, false, false] rfl rfl rfl rfl (by kernel_rfl) (by decide) (by decide) (fun K hK => ?_) (fun K hK => ?_)
              · skip
                refine goes_ Try.func21 (by kernel_rfl) rfl #[.agg #[.slice A1_0 l1_0.length c1_0, .bool a1_1]] (by rfl) rfl rfl (by (try simp only [List.map_toArray, List.map_cons, List.map_nil]); first | done | rfl) ?_
                with_reducible refine (laws_toBank.calls k _ _ l1_0 a1_1 t11 t12 _ (Kd.C_below HR1_0.out HB.out) HC1_0.out A10.out).mono ?_
                rintro e W16 ⟨v13, rfl, ho13, hb⟩
                refine ⟨_, rfl, ?_⟩
                obtain ⟨B13, d13, e_⟩ := Kd.R_slice ho13
                subst e_
                obtain ⟨lo13, hi13, nn, ht_, hO13⟩ := laws_FnExactRideOver.newR ho13 HT.out (below_size HB.out) hb.size
                replace HO9 := Aside0.mk (Kd.S_below HO9.out hb)
                replace BK1 := Aside0.mk (blk_below (g := gb1) (o := .cells #[.int .i64 a0_0, .slice A0_1 l0_1.length c0_1, .int .i64 a0_2] 24 (0, 0)) BK1.out hb)
                replace BK2 := Aside0.mk (blk_below (g := gb2) (o := .cells #[.slice A1_0 l1_0.length c1_0, .bool a1_1] 35 (0, 0)) BK2.out hb)
                replace HB := Aside0.mk (below_step HB.out hb)
                replace HT := Aside0.mk (Nat.le_trans HT.out hb.size)
                have HO13 := Aside0.mk hO13
                replace HT := Aside0.mk ht_
                replace HN := Aside0.mk (And.intro nn HN.out)
                clear ho13 hO13 nn ht_
                clear hb
                refine hK.out _ _ ⟨(blk_cell BK1.out 0).trans rfl, (blk_cell BK1.out 1).trans rfl, (blk_cell BK1.out 2).trans rfl, (blk_cell BK2.out 0).trans rfl, (blk_cell BK2.out 1).trans rfl⟩ (fun hHeld => ?_)
                clear hK K
                refine norm_ (a' := ?_) ?_ ?_
                rotate_left
                · show Act.put _ (some 37) _ = _
                  simp only [Act.put, List.setIfInBounds_toArray, List.set_cons_zero, List.set_cons_succ, i64_w, i32_w]
                  rfl
                refine two_ (i := 5) (j := 10) (Ni := some 39) (Nj := some 8) #[true, true, true, true, true, true, false, false, false, false, false, false, false] #[true, true, true, true, true, false, false, false, false, false, true, false, false] rfl rfl rfl rfl (by kernel_rfl) (by decide) (by decide) (fun K hK => ?_) (fun K hK => ?_)
                · skip
                  refine goes_ Try.func37 (by kernel_rfl) rfl #[.slice A2 l2.length c2] (by rfl) rfl rfl (by (try simp only [List.map_toArray, List.map_cons, List.map_nil]); first | done | rfl) ?_
                  with_reducible refine (laws_toIntS.calls k _ _ l2 t15 _ (Kd.C_below HR2.out HB.out) HC2.out A14.out).mono ?_
                  rintro e W17 ⟨v16, rfl, ho16, hb⟩
                  refine ⟨_, rfl, ?_⟩
                  obtain ⟨B16, d16, e_⟩ := Kd.R_slice ho16
                  subst e_
                  obtain ⟨lo16, hi16, nn, ht_, hO16⟩ := laws_FnExactRideOver.newR ho16 HT.out (below_size HB.out) hb.size
                  replace HO9 := Aside0.mk (Kd.S_below HO9.out hb)
                  replace HO13 := Aside0.mk (Kd.R_below HO13.out hb)
                  replace BK1 := Aside0.mk (blk_below (g := gb1) (o := .cells #[.int .i64 a0_0, .slice A0_1 l0_1.length c0_1, .int .i64 a0_2] 24 (0, 0)) BK1.out hb)
                  replace BK2 := Aside0.mk (blk_below (g := gb2) (o := .cells #[.slice A1_0 l1_0.length c1_0, .bool a1_1] 35 (0, 0)) BK2.out hb)
                  replace HB := Aside0.mk (below_step HB.out hb)
                  replace HT := Aside0.mk (Nat.le_trans HT.out hb.size)
                  have HO16 := Aside0.mk hO16
                  replace HT := Aside0.mk ht_
                  replace HN := Aside0.mk (And.intro nn HN.out)
                  clear ho16 hO16 nn ht_
                  clear hb
                  refine hK.out _ _ ⟨(blk_cell BK1.out 0).trans rfl, (blk_cell BK1.out 1).trans rfl, (blk_cell BK1.out 2).trans rfl, (blk_cell BK2.out 0).trans rfl, (blk_cell BK2.out 1).trans rfl⟩ (fun hHeld => ?_)
                  clear hK K
                  refine norm_ (a' := ?_) ?_ ?_
                  rotate_left
                  · show Act.put _ (some 39) _ = _
                    simp only [Act.put, List.setIfInBounds_toArray, List.set_cons_zero, List.set_cons_succ, i64_w, i32_w]
                    rfl
                  refine two_ (i := 6) (j := 10) (Ni := some 40) (Nj := some 8) #[true, true, true, true, true, true, true, false, false, false, false, false, false] #[true, true, true, true, true, true, false, false, false, false, true, false, false] rfl rfl rfl rfl (by kernel_rfl) (by decide) (by decide) (fun K hK => ?_) (fun K hK => ?_)
                  · skip
                    refine goes_ Try.func36 (by kernel_rfl) rfl #[.agg #[.int .i64 t6, .slice B9 t7.length d9, .int .i64 t8], .agg #[.slice B13 t11.length d13, .bool t12], .slice B16 t15.length d16] (by rfl) rfl rfl (by (try simp only [List.map_toArray, List.map_cons, List.map_nil]); first | done | rfl) ?_
                    with_reducible refine (spec_RideOver.calls k t6 _ _ t7 t8 _ _ t11 t12 _ _ t15 t18 t19 t20 _ (Kd.R_reads' (Kd.S_R HO9.out)).2.2 (Kd.R_reads' (Kd.S_R HO9.out)).2.1 (Kd.R_reads' HO13.out).2.2 (Kd.R_reads' HO13.out).2.1 (Kd.R_reads' HO16.out).2.2 (Kd.R_reads' HO16.out).2.1 A17.out).mono ?_
                    rintro e W18 ⟨v21, rfl, ho21, hb⟩
                    refine ⟨_, rfl, ?_⟩
                    obtain ⟨B21, d21, e_⟩ := Kd.R_slice ho21
                    subst e_
                    obtain ⟨lo21, hi21, nn, ht_, hO21⟩ := laws_FnExactRideOver.newR ho21 HT.out (below_size HB.out) hb.size
                    replace HO9 := Aside0.mk (Kd.S_below HO9.out hb)
                    replace HO13 := Aside0.mk (Kd.R_below HO13.out hb)
                    replace HO16 := Aside0.mk (Kd.R_below HO16.out hb)
                    replace BK1 := Aside0.mk (blk_below (g := gb1) (o := .cells #[.int .i64 a0_0, .slice A0_1 l0_1.length c0_1, .int .i64 a0_2] 24 (0, 0)) BK1.out hb)
                    replace BK2 := Aside0.mk (blk_below (g := gb2) (o := .cells #[.slice A1_0 l1_0.length c1_0, .bool a1_1] 35 (0, 0)) BK2.out hb)
                    replace HB := Aside0.mk (below_step HB.out hb)
                    replace HT := Aside0.mk (Nat.le_trans HT.out hb.size)
                    have HO21 := Aside0.mk hO21
                    replace HT := Aside0.mk ht_
                    replace HN := Aside0.mk (And.intro nn HN.out)
                    clear ho21 hO21 nn ht_
                    clear hb
                    clear HO9 HO13 HO16
                    refine hK.out _ _ ⟨(blk_cell BK1.out 0).trans rfl, (blk_cell BK1.out 1).trans rfl, (blk_cell BK1.out 2).trans rfl, (blk_cell BK2.out 0).trans rfl, (blk_cell BK2.out 1).trans rfl⟩ (fun hHeld => ?_)
                    clear hK K
                    refine norm_ (a' := ?_) ?_ ?_
                    rotate_left
                    · show Act.put _ (some 40) _ = _
                      simp only [Act.put, List.setIfInBounds_toArray, List.set_cons_zero, List.set_cons_succ, i64_w, i32_w]
                      rfl
                    refine pure_ (i := 7) (N := some 33) (v := ?_) (a' := ?_) #[true, true, true, true, true, true, true, true, false, false, false, false, false] rfl rfl (by kernel_rfl) (fun _ _ _ h => h) (Or.inl ⟨by rfl, ?_⟩) ?_ ?_
                    rotate_left
                    · intro w'
                      go_simp
                      with_reducible rfl
                    rotate_left
                    · simp only [Act.put, List.setIfInBounds_toArray, List.set_cons_zero, List.set_cons_succ, i64_w, i32_w]
                      rfl
                    refine pure_ (i := 8) (N := some 41) (v := ?_) (a' := ?_) #[true, true, true, true, true, true, true, true, true, false, false, false, false] rfl rfl (by kernel_rfl) (fun _ _ _ h => h) (Or.inl ⟨by rfl, ?_⟩) ?_ ?_
                    rotate_left
                    · intro w'
                      go_simp
                      with_reducible rfl
                    rotate_left
                    · simp only [Act.put, List.setIfInBounds_toArray, List.set_cons_zero, List.set_cons_succ, i64_w, i32_w]
                      rfl
                    refine pure_ (i := 9) (N := some 42) (v := ?_) (a' := ?_) #[true, true, true, true, true, true, true, true, true, true, false, false, false] rfl rfl (by kernel_rfl) (fun _ _ _ h => h) (Or.inl ⟨by rfl, ?_⟩) ?_ ?_
                    rotate_left
                    · intro w'
                      go_simp
                      with_reducible rfl
                    rotate_left
                    · simp only [Act.put, List.setIfInBounds_toArray, List.set_cons_zero, List.set_cons_succ, i64_w, i32_w]
                      rfl
                    refine one_ (i := 10) (N := some 8) #[true, true, true, true, true, true, true, true, true, true, true, false, false] rfl rfl (by kernel_rfl) (by decide) (fun K hK => ?_)
                    refine box_step (by rfl) (N := 8) rfl (cs := #[.slice none 0 0, .bool false]) (t := 39) ?hr ?_
                    (case hr => first | (go_simp; done) | (go_simp; rfl))
                    intro gb3 hg W19 hbox hb
                    have nn : hi21 ≤ gb3 := Nat.le_trans HT.out (Nat.le_of_eq hg.symm)
                    have GE3 := Aside0.mk (Nat.le_trans (below_size HB.out) (Nat.le_of_eq hg.symm))
                    replace HO21 := Aside0.mk (Kd.R_below HO21.out hb)
                    replace BK1 := Aside0.mk (blk_below (g := gb1) (o := .cells #[.int .i64 a0_0, .slice A0_1 l0_1.length c0_1, .int .i64 a0_2] 24 (0, 0)) BK1.out hb)
                    replace BK2 := Aside0.mk (blk_below (g := gb2) (o := .cells #[.slice A1_0 l1_0.length c1_0, .bool a1_1] 35 (0, 0)) BK2.out hb)
                    replace HB := Aside0.mk (below_step HB.out hb)
                    replace HT := Aside0.mk (Nat.le_trans HT.out hb.size)
                    have BK3 := Aside0.mk hbox
                    replace HT := Aside0.mk (Nat.succ_le_of_lt (blk_lt hbox))
                    replace HN := Aside0.mk (And.intro nn HN.out)
                    clear hg hbox hb nn
                    refine hK.out _ _ ⟨(blk_cell BK1.out 0).trans rfl, (blk_cell BK1.out 1).trans rfl, (blk_cell BK1.out 2).trans rfl, (blk_cell BK2.out 0).trans rfl, (blk_cell BK2.out 1).trans rfl⟩ (fun hHeld => ?_)
                    clear hK K
                    refine norm_ (a' := ?_) ?_ ?_
                    rotate_left
                    · show Act.put _ (some 8) _ = _
                      simp only [Act.put, List.setIfInBounds_toArray, List.set_cons_zero, List.set_cons_succ, i64_w, i32_w]
                      rfl
                    exact norm_ (by first | (simp only [putAll, Act.put, List.setIfInBounds_toArray, List.set_cons_zero, List.set_cons_succ]; done) | (simp only [putAll, Act.put, List.setIfInBounds_toArray, List.set_cons_zero, List.set_cons_succ]; rfl)) (hJ4 (B9, d9, B13, d13, B16, d16, B21, d21, gb3) _ ⟨lo21, hi21, gb3.succ, HO21, BK1, BK2, BK3, HB, HT, GE3, ⟨by have hn_ := HN.out; (try dsimp only); omega⟩⟩)
                  · skip
                    refine box_step (by rfl) (N := 8) rfl (cs := #[.slice none 0 0, .bool false]) (t := 39) ?hr ?_
                    (case hr => first | (go_simp; done) | (go_simp; rfl))
                    intro gb3 hg W20 hbox hb
                    have nn : hi16 ≤ gb3 := Nat.le_trans HT.out (Nat.le_of_eq hg.symm)
                    have GE3 := Aside0.mk (Nat.le_trans (below_size HB.out) (Nat.le_of_eq hg.symm))
                    replace HO9 := Aside0.mk (Kd.S_below HO9.out hb)
                    replace HO13 := Aside0.mk (Kd.R_below HO13.out hb)
                    replace HO16 := Aside0.mk (Kd.R_below HO16.out hb)
                    replace BK1 := Aside0.mk (blk_below (g := gb1) (o := .cells #[.int .i64 a0_0, .slice A0_1 l0_1.length c0_1, .int .i64 a0_2] 24 (0, 0)) BK1.out hb)
                    replace BK2 := Aside0.mk (blk_below (g := gb2) (o := .cells #[.slice A1_0 l1_0.length c1_0, .bool a1_1] 35 (0, 0)) BK2.out hb)
                    replace HB := Aside0.mk (below_step HB.out hb)
                    replace HT := Aside0.mk (Nat.le_trans HT.out hb.size)
                    have BK3 := Aside0.mk hbox
                    replace HT := Aside0.mk (Nat.succ_le_of_lt (blk_lt hbox))
                    replace HN := Aside0.mk (And.intro nn HN.out)
                    clear hg hbox hb nn
                    refine hK.out _ _ ⟨(blk_cell BK1.out 0).trans rfl, (blk_cell BK1.out 1).trans rfl, (blk_cell BK1.out 2).trans rfl, (blk_cell BK2.out 0).trans rfl, (blk_cell BK2.out 1).trans rfl⟩ (fun hHeld => ?_)
                    clear hK K
                    refine norm_ (a' := ?_) ?_ ?_
                    rotate_left
                    · show Act.put _ (some 8) _ = _
                      simp only [Act.put, List.setIfInBounds_toArray, List.set_cons_zero, List.set_cons_succ, i64_w, i32_w]
                      rfl
                    exact norm_ (by first | (simp only [putAll, Act.put, List.setIfInBounds_toArray, List.set_cons_zero, List.set_cons_succ]; done) | (simp only [putAll, Act.put, List.setIfInBounds_toArray, List.set_cons_zero, List.set_cons_succ]; rfl)) (hJ3 (B9, d9, B13, d13, B16, d16, gb3) _ ⟨lo9, hi9, lo13, hi13, lo16, hi16, gb3.succ, HO9, HO13, HO16, BK1, BK2, BK3, HB, HT, GE3, ⟨by have hn_ := HN.out; (try dsimp only); omega⟩⟩)
                · skip
                  refine box_step (by rfl) (N := 8) rfl (cs := #[.slice none 0 0, .bool false]) (t := 39) ?hr ?_
                  (case hr => first | (go_simp; done) | (go_simp; rfl))
                  intro gb3 hg W21 hbox hb
                  have nn : hi13 ≤ gb3 := Nat.le_trans HT.out (Nat.le_of_eq hg.symm)
                  have GE3 := Aside0.mk (Nat.le_trans (below_size HB.out) (Nat.le_of_eq hg.symm))
                  replace HO9 := Aside0.mk (Kd.S_below HO9.out hb)
                  replace HO13 := Aside0.mk (Kd.R_below HO13.out hb)
                  replace BK1 := Aside0.mk (blk_below (g := gb1) (o := .cells #[.int .i64 a0_0, .slice A0_1 l0_1.length c0_1, .int .i64 a0_2] 24 (0, 0)) BK1.out hb)
                  replace BK2 := Aside0.mk (blk_below (g := gb2) (o := .cells #[.slice A1_0 l1_0.length c1_0, .bool a1_1] 35 (0, 0)) BK2.out hb)
                  replace HB := Aside0.mk (below_step HB.out hb)
                  replace HT := Aside0.mk (Nat.le_trans HT.out hb.size)
                  have BK3 := Aside0.mk hbox
                  replace HT := Aside0.mk (Nat.succ_le_of_lt (blk_lt hbox))
                  replace HN := Aside0.mk (And.intro nn HN.out)
                  clear hg hbox hb nn
                  refine hK.out _ _ ⟨(blk_cell BK1.out 0).trans rfl, (blk_cell BK1.out 1).trans rfl, (blk_cell BK1.out 2).trans rfl, (blk_cell BK2.out 0).trans rfl, (blk_cell BK2.out 1).trans rfl⟩ (fun hHeld => ?_)
                  clear hK K
                  refine norm_ (a' := ?_) ?_ ?_
                  rotate_left
                  · show Act.put _ (some 8) _ = _
                    simp only [Act.put, List.setIfInBounds_toArray, List.set_cons_zero, List.set_cons_succ, i64_w, i32_w]
                    rfl
                  exact norm_ (by first | (simp only [putAll, Act.put, List.setIfInBounds_toArray, List.set_cons_zero, List.set_cons_succ]; done) | (simp only [putAll, Act.put, List.setIfInBounds_toArray, List.set_cons_zero, List.set_cons_succ]; rfl)) (hJ2 (B9, d9, B13, d13, gb3) _ ⟨lo9, hi9, lo13, hi13, gb3.succ, HO9, HO13, BK1, BK2, BK3, HB, HT, GE3, ⟨by have hn_ := HN.out; (try dsimp only); omega⟩⟩)
              · skip
                refine box_step (by rfl) (N := 8) rfl (cs := #[.slice none 0 0, .bool false]) (t := 39) ?hr ?_
                (case hr => first | (go_simp; done) | (go_simp; rfl))
                intro gb3 hg W22 hbox hb
                have nn : hi9 ≤ gb3 := Nat.le_trans HT.out (Nat.le_of_eq hg.symm)
                have GE3 := Aside0.mk (Nat.le_trans (below_size HB.out) (Nat.le_of_eq hg.symm))
                replace HO9 := Aside0.mk (Kd.S_below HO9.out hb)
                replace BK1 := Aside0.mk (blk_below (g := gb1) (o := .cells #[.int .i64 a0_0, .slice A0_1 l0_1.length c0_1, .int .i64 a0_2] 24 (0, 0)) BK1.out hb)
                replace BK2 := Aside0.mk (blk_below (g := gb2) (o := .cells #[.slice A1_0 l1_0.length c1_0, .bool a1_1] 35 (0, 0)) BK2.out hb)
                replace HB := Aside0.mk (below_step HB.out hb)
                replace HT := Aside0.mk (Nat.le_trans HT.out hb.size)
                have BK3 := Aside0.mk hbox
                replace HT := Aside0.mk (Nat.succ_le_of_lt (blk_lt hbox))
                replace HN := Aside0.mk (And.intro nn HN.out)
                clear hg hbox hb nn
                refine hK.out _ _ ⟨(blk_cell BK1.out 0).trans rfl, (blk_cell BK1.out 1).trans rfl, (blk_cell BK1.out 2).trans rfl, (blk_cell BK2.out 0).trans rfl, (blk_cell BK2.out 1).trans rfl⟩ (fun hHeld => ?_)
                clear hK K
                refine norm_ (a' := ?_) ?_ ?_
                rotate_left
                · show Act.put _ (some 8) _ = _
                  simp only [Act.put, List.setIfInBounds_toArray, List.set_cons_zero, List.set_cons_succ, i64_w, i32_w]
                  rfl
                exact norm_ (by first | (simp only [putAll, Act.put, List.setIfInBounds_toArray, List.set_cons_zero, List.set_cons_succ]; done) | (simp only [putAll, Act.put, List.setIfInBounds_toArray, List.set_cons_zero, List.set_cons_succ]; rfl)) (hJ1 (B9, d9, gb3) _ ⟨lo9, hi9, gb3.succ, HO9, BK1, BK2, BK3, HB, HT, GE3, ⟨by have hn_ := HN.out; (try dsimp only); omega⟩⟩)
            · skip
              refine box_step (by rfl) (N := 8) rfl (cs := #[.slice none 0 0, .bool false]) (t := 39) ?hr ?_
              (case hr => first | (go_simp; done) | (go_simp; rfl))
              intro gb3 hg W23 hbox hb
              have nn : gb2.succ ≤ gb3 := Nat.le_trans HT.out (Nat.le_of_eq hg.symm)
              have GE3 := Aside0.mk (Nat.le_trans (below_size HB.out) (Nat.le_of_eq hg.symm))
              replace BK1 := Aside0.mk (blk_below (g := gb1) (o := .cells #[.int .i64 a0_0, .slice A0_1 l0_1.length c0_1, .int .i64 a0_2] 24 (0, 0)) BK1.out hb)
              replace BK2 := Aside0.mk (blk_below (g := gb2) (o := .cells #[.slice A1_0 l1_0.length c1_0, .bool a1_1] 35 (0, 0)) BK2.out hb)
              replace HB := Aside0.mk (below_step HB.out hb)
              replace HT := Aside0.mk (Nat.le_trans HT.out hb.size)
              have BK3 := Aside0.mk hbox
              replace HT := Aside0.mk (Nat.succ_le_of_lt (blk_lt hbox))
              replace HN := Aside0.mk (And.intro nn HN.out)
              clear hg hbox hb nn
              refine hK.out _ _ ⟨(blk_cell BK1.out 0).trans rfl, (blk_cell BK1.out 1).trans rfl, (blk_cell BK1.out 2).trans rfl, (blk_cell BK2.out 0).trans rfl, (blk_cell BK2.out 1).trans rfl⟩ (fun hHeld => ?_)
              clear hK K
              refine norm_ (a' := ?_) ?_ ?_
              rotate_left
              · show Act.put _ (some 8) _ = _
                simp only [Act.put, List.setIfInBounds_toArray, List.set_cons_zero, List.set_cons_succ, i64_w, i32_w]
                rfl
              exact norm_ (by first | (simp only [putAll, Act.put, List.setIfInBounds_toArray, List.set_cons_zero, List.set_cons_succ]; done) | (simp only [putAll, Act.put, List.setIfInBounds_toArray, List.set_cons_zero, List.set_cons_succ]; rfl)) (hJ0 (gb3) _ ⟨gb3.succ, BK1, BK2, BK3, HB, HT, GE3, ⟨by have hn_ := HN.out; (try dsimp only); omega⟩⟩)
          · skip
            clear BK1 BK2 HB HT
            (try clear hHeld)
            intro s_ W24 hF
            obtain ⟨gb3, hs_⟩ : ∃ x, x = s_ := ⟨_, rfl⟩
            subst hs_
            (try dsimp only at hF)
            obtain ⟨T0_, BK1, BK2, BK3, HB, HT, GE3, nn_⟩ := hF
            replace HN := Aside0.mk (And.intro nn_.out HN.out)
            clear nn_
            refine norm_ (a' := ?_) ?_ ?_
            rotate_left
            · simp only [putAll, Act.put, List.setIfInBounds_toArray, List.set_cons_zero, List.set_cons_succ]
              rfl
            refine one_ (i := 1) (N := some 35) #[true, true, true, false, true, false, false, false, false, false, true, false, false] rfl rfl (by kernel_rfl) (by decide) (fun K hK => ?_)
            refine goes_ Try.func14 (by kernel_rfl) rfl #[.agg #[.int .i64 a0_0, .slice A0_1 l0_1.length c0_1, .int .i64 a0_2]] (by rfl) rfl rfl (by (try simp only [List.map_toArray, List.map_cons, List.map_nil]); first | done | rfl) ?_
            with_reducible refine (laws_toKeep.calls k a0_0 _ _ l0_1 a0_2 t6 t7 t8 _ (Kd.C_below HR0_1.out HB.out) HC0_1.out A5.out).mono ?_
            rintro e W25 ⟨v9, rfl, ho9, hb⟩
            refine ⟨_, rfl, ?_⟩
            obtain ⟨B9, d9, e_⟩ := Kd.S_slice ho9
            subst e_
            obtain ⟨lo9, hi9, nn, ht_, hO9⟩ := laws_FnExactRideOver.newS ho9 HT.out (below_size HB.out) hb.size
            replace BK1 := Aside0.mk (blk_below (g := gb1) (o := .cells #[.int .i64 a0_0, .slice A0_1 l0_1.length c0_1, .int .i64 a0_2] 24 (0, 0)) BK1.out hb)
            replace BK2 := Aside0.mk (blk_below (g := gb2) (o := .cells #[.slice A1_0 l1_0.length c1_0, .bool a1_1] 35 (0, 0)) BK2.out hb)
            replace BK3 := Aside0.mk (blk_below (g := gb3) (o := .cells #[.slice none 0 0, .bool false] 39 (0, 0)) BK3.out hb)
            replace HB := Aside0.mk (below_step HB.out hb)
            replace HT := Aside0.mk (Nat.le_trans HT.out hb.size)
            have HO9 := Aside0.mk hO9
            replace HT := Aside0.mk ht_
            replace HN := Aside0.mk (And.intro nn HN.out)
            clear ho9 hO9 nn ht_
            clear hb
            refine hK.out _ _ ⟨(blk_cell BK1.out 0).trans rfl, (blk_cell BK1.out 1).trans rfl, (blk_cell BK1.out 2).trans rfl, (blk_cell BK2.out 0).trans rfl, (blk_cell BK2.out 1).trans rfl⟩ (fun hHeld => ?_)
            clear hK K
            refine norm_ (a' := ?_) ?_ ?_
            rotate_left
            · show Act.put _ (some 35) _ = _
              simp only [Act.put, List.setIfInBounds_toArray, List.set_cons_zero, List.set_cons_succ, i64_w, i32_w]
              rfl
            exact norm_ (by first | (simp only [putAll, Act.put, List.setIfInBounds_toArray, List.set_cons_zero, List.set_cons_succ]; done) | (simp only [putAll, Act.put, List.setIfInBounds_toArray, List.set_cons_zero, List.set_cons_succ]; rfl)) (hJ1 (B9, d9, gb3) _ ⟨lo9, hi9, hi9, HO9, BK1, BK2, BK3, HB, HT, GE3, ⟨by have hn_ := HN.out; (try dsimp only); omega⟩⟩)
        · skip
          clear BK1 BK2 HB HT
          (try clear hHeld)
          intro s_ W26 hF
          obtain ⟨B9, d9, gb3⟩ := s_
          (try dsimp only at hF)
          obtain ⟨lo9, hi9, T1_, HO9, BK1, BK2, BK3, HB, HT, GE3, nn_⟩ := hF
          replace HN := Aside0.mk (And.intro nn_.out HN.out)
          clear nn_
          refine norm_ (a' := ?_) ?_ ?_
          rotate_left
          · simp only [putAll, Act.put, List.setIfInBounds_toArray, List.set_cons_zero, List.set_cons_succ]
            rfl
          refine one_ (i := 3) (N := some 37) #[true, true, true, true, true, false, false, false, false, false, true, false, false] rfl rfl (by kernel_rfl) (by decide) (fun K hK => ?_)
          refine goes_ Try.func21 (by kernel_rfl) rfl #[.agg #[.slice A1_0 l1_0.length c1_0, .bool a1_1]] (by rfl) rfl rfl (by (try simp only [List.map_toArray, List.map_cons, List.map_nil]); first | done | rfl) ?_
          with_reducible refine (laws_toBank.calls k _ _ l1_0 a1_1 t11 t12 _ (Kd.C_below HR1_0.out HB.out) HC1_0.out A10.out).mono ?_
          rintro e W27 ⟨v13, rfl, ho13, hb⟩
          refine ⟨_, rfl, ?_⟩
          obtain ⟨B13, d13, e_⟩ := Kd.R_slice ho13
          subst e_
          obtain ⟨lo13, hi13, nn, ht_, hO13⟩ := laws_FnExactRideOver.newR ho13 HT.out (below_size HB.out) hb.size
          replace HO9 := Aside0.mk (Kd.S_below HO9.out hb)
          replace BK1 := Aside0.mk (blk_below (g := gb1) (o := .cells #[.int .i64 a0_0, .slice A0_1 l0_1.length c0_1, .int .i64 a0_2] 24 (0, 0)) BK1.out hb)
          replace BK2 := Aside0.mk (blk_below (g := gb2) (o := .cells #[.slice A1_0 l1_0.length c1_0, .bool a1_1] 35 (0, 0)) BK2.out hb)
          replace BK3 := Aside0.mk (blk_below (g := gb3) (o := .cells #[.slice none 0 0, .bool false] 39 (0, 0)) BK3.out hb)
          replace HB := Aside0.mk (below_step HB.out hb)
          replace HT := Aside0.mk (Nat.le_trans HT.out hb.size)
          have HO13 := Aside0.mk hO13
          replace HT := Aside0.mk ht_
          replace HN := Aside0.mk (And.intro nn HN.out)
          clear ho13 hO13 nn ht_
          clear hb
          refine hK.out _ _ ⟨(blk_cell BK1.out 0).trans rfl, (blk_cell BK1.out 1).trans rfl, (blk_cell BK1.out 2).trans rfl, (blk_cell BK2.out 0).trans rfl, (blk_cell BK2.out 1).trans rfl⟩ (fun hHeld => ?_)
          clear hK K
          refine norm_ (a' := ?_) ?_ ?_
          rotate_left
          · show Act.put _ (some 37) _ = _
            simp only [Act.put, List.setIfInBounds_toArray, List.set_cons_zero, List.set_cons_succ, i64_w, i32_w]
            rfl
          exact norm_ (by first | (simp only [putAll, Act.put, List.setIfInBounds_toArray, List.set_cons_zero, List.set_cons_succ]; done) | (simp only [putAll, Act.put, List.setIfInBounds_toArray, List.set_cons_zero, List.set_cons_succ]; rfl)) (hJ2 (B9, d9, B13, d13, gb3) _ ⟨lo9, hi9, lo13, hi13, hi13, HO9, HO13, BK1, BK2, BK3, HB, HT, GE3, ⟨by have hn_ := HN.out; (try dsimp only); omega⟩⟩)
      · skip
        clear BK1 BK2 HB HT
        (try clear hHeld)
        intro s_ W28 hF
        obtain ⟨B9, d9, B13, d13, gb3⟩ := s_
        (try dsimp only at hF)
        obtain ⟨lo9, hi9, lo13, hi13, T2_, HO9, HO13, BK1, BK2, BK3, HB, HT, GE3, nn_⟩ := hF
        replace HN := Aside0.mk (And.intro nn_.out HN.out)
        clear nn_
        refine norm_ (a' := ?_) ?_ ?_
        rotate_left
        · simp only [putAll, Act.put, List.setIfInBounds_toArray, List.set_cons_zero, List.set_cons_succ]
          rfl
        refine one_ (i := 5) (N := some 39) #[true, true, true, true, true, true, false, false, false, false, true, false, false] rfl rfl (by kernel_rfl) (by decide) (fun K hK => ?_)
        refine goes_ Try.func37 (by kernel_rfl) rfl #[.slice A2 l2.length c2] (by rfl) rfl rfl (by (try simp only [List.map_toArray, List.map_cons, List.map_nil]); first | done | rfl) ?_
        with_reducible refine (laws_toIntS.calls k _ _ l2 t15 _ (Kd.C_below HR2.out HB.out) HC2.out A14.out).mono ?_
        rintro e W29 ⟨v16, rfl, ho16, hb⟩
        refine ⟨_, rfl, ?_⟩
        obtain ⟨B16, d16, e_⟩ := Kd.R_slice ho16
        subst e_
        obtain ⟨lo16, hi16, nn, ht_, hO16⟩ := laws_FnExactRideOver.newR ho16 HT.out (below_size HB.out) hb.size
        replace HO9 := Aside0.mk (Kd.S_below HO9.out hb)
        replace HO13 := Aside0.mk (Kd.R_below HO13.out hb)
        replace BK1 := Aside0.mk (blk_below (g := gb1) (o := .cells #[.int .i64 a0_0, .slice A0_1 l0_1.length c0_1, .int .i64 a0_2] 24 (0, 0)) BK1.out hb)
        replace BK2 := Aside0.mk (blk_below (g := gb2) (o := .cells #[.slice A1_0 l1_0.length c1_0, .bool a1_1] 35 (0, 0)) BK2.out hb)
        replace BK3 := Aside0.mk (blk_below (g := gb3) (o := .cells #[.slice none 0 0, .bool false] 39 (0, 0)) BK3.out hb)
        replace HB := Aside0.mk (below_step HB.out hb)
        replace HT := Aside0.mk (Nat.le_trans HT.out hb.size)
        have HO16 := Aside0.mk hO16
        replace HT := Aside0.mk ht_
        replace HN := Aside0.mk (And.intro nn HN.out)
        clear ho16 hO16 nn ht_
        clear hb
        refine hK.out _ _ ⟨(blk_cell BK1.out 0).trans rfl, (blk_cell BK1.out 1).trans rfl, (blk_cell BK1.out 2).trans rfl, (blk_cell BK2.out 0).trans rfl, (blk_cell BK2.out 1).trans rfl⟩ (fun hHeld => ?_)
        clear hK K
        refine norm_ (a' := ?_) ?_ ?_
        rotate_left
        · show Act.put _ (some 39) _ = _
          simp only [Act.put, List.setIfInBounds_toArray, List.set_cons_zero, List.set_cons_succ, i64_w, i32_w]
          rfl
        exact norm_ (by first | (simp only [putAll, Act.put, List.setIfInBounds_toArray, List.set_cons_zero, List.set_cons_succ]; done) | (simp only [putAll, Act.put, List.setIfInBounds_toArray, List.set_cons_zero, List.set_cons_succ]; rfl)) (hJ3 (B9, d9, B13, d13, B16, d16, gb3) _ ⟨lo9, hi9, lo13, hi13, lo16, hi16, hi16, HO9, HO13, HO16, BK1, BK2, BK3, HB, HT, GE3, ⟨by have hn_ := HN.out; (try dsimp only); omega⟩⟩)
    · skip
      clear BK1 BK2 HB HT
      (try clear hHeld)
      intro s_ W30 hF
      obtain ⟨B9, d9, B13, d13, B16, d16, gb3⟩ := s_
      (try dsimp only at hF)
      obtain ⟨lo9, hi9, lo13, hi13, lo16, hi16, T3_, HO9, HO13, HO16, BK1, BK2, BK3, HB, HT, GE3, nn_⟩ := hF
      replace HN := Aside0.mk (And.intro nn_.out HN.out)
      clear nn_
      refine norm_ (a' := ?_) ?_ ?_
      rotate_left
      · simp only [putAll, Act.put, List.setIfInBounds_toArray, List.set_cons_zero, List.set_cons_succ]
        rfl
      refine one_ (i := 6) (N := some 40) #[true, true, true, true, true, true, true, false, false, false, true, false, false] rfl rfl (by kernel_rfl) (by decide) (fun K hK => ?_)
      refine goes_ Try.func36 (by kernel_rfl) rfl #[.agg #[.int .i64 t6, .slice B9 t7.length d9, .int .i64 t8], .agg #[.slice B13 t11.length d13, .bool t12], .slice B16 t15.length d16] (by rfl) rfl rfl (by (try simp only [List.map_toArray, List.map_cons, List.map_nil]); first | done | rfl) ?_
      with_reducible refine (spec_RideOver.calls k t6 _ _ t7 t8 _ _ t11 t12 _ _ t15 t18 t19 t20 _ (Kd.R_reads' (Kd.S_R HO9.out)).2.2 (Kd.R_reads' (Kd.S_R HO9.out)).2.1 (Kd.R_reads' HO13.out).2.2 (Kd.R_reads' HO13.out).2.1 (Kd.R_reads' HO16.out).2.2 (Kd.R_reads' HO16.out).2.1 A17.out).mono ?_
      rintro e W31 ⟨v21, rfl, ho21, hb⟩
      refine ⟨_, rfl, ?_⟩
      obtain ⟨B21, d21, e_⟩ := Kd.R_slice ho21
      subst e_
      obtain ⟨lo21, hi21, nn, ht_, hO21⟩ := laws_FnExactRideOver.newR ho21 HT.out (below_size HB.out) hb.size
      replace HO9 := Aside0.mk (Kd.S_below HO9.out hb)
      replace HO13 := Aside0.mk (Kd.R_below HO13.out hb)
      replace HO16 := Aside0.mk (Kd.R_below HO16.out hb)
      replace BK1 := Aside0.mk (blk_below (g := gb1) (o := .cells #[.int .i64 a0_0, .slice A0_1 l0_1.length c0_1, .int .i64 a0_2] 24 (0, 0)) BK1.out hb)
      replace BK2 := Aside0.mk (blk_below (g := gb2) (o := .cells #[.slice A1_0 l1_0.length c1_0, .bool a1_1] 35 (0, 0)) BK2.out hb)
      replace BK3 := Aside0.mk (blk_below (g := gb3) (o := .cells #[.slice none 0 0, .bool false] 39 (0, 0)) BK3.out hb)
      replace HB := Aside0.mk (below_step HB.out hb)
      replace HT := Aside0.mk (Nat.le_trans HT.out hb.size)
      have HO21 := Aside0.mk hO21
      replace HT := Aside0.mk ht_
      replace HN := Aside0.mk (And.intro nn HN.out)
      clear ho21 hO21 nn ht_
      clear hb
      clear HO9 HO13 HO16
      refine hK.out _ _ ⟨(blk_cell BK1.out 0).trans rfl, (blk_cell BK1.out 1).trans rfl, (blk_cell BK1.out 2).trans rfl, (blk_cell BK2.out 0).trans rfl, (blk_cell BK2.out 1).trans rfl⟩ (fun hHeld => ?_)
      clear hK K
      refine norm_ (a' := ?_) ?_ ?_
      rotate_left
      · show Act.put _ (some 40) _ = _
        simp only [Act.put, List.setIfInBounds_toArray, List.set_cons_zero, List.set_cons_succ, i64_w, i32_w]
        rfl
      refine pure_ (i := 7) (N := some 33) (v := ?_) (a' := ?_) #[true, true, true, true, true, true, true, true, false, false, true, false, false] rfl rfl (by kernel_rfl) (fun _ _ _ h => h) (Or.inl ⟨by rfl, ?_⟩) ?_ ?_
      rotate_left
      · intro w'
        go_simp
        with_reducible rfl
      rotate_left
      · simp only [Act.put, List.setIfInBounds_toArray, List.set_cons_zero, List.set_cons_succ, i64_w, i32_w]
        rfl
      refine pure_ (i := 8) (N := some 41) (v := ?_) (a' := ?_) #[true, true, true, true, true, true, true, true, true, false, true, false, false] rfl rfl (by kernel_rfl) (fun _ _ _ h => h) (Or.inl ⟨by rfl, ?_⟩) ?_ ?_
      rotate_left
      · intro w'
        go_simp
        with_reducible rfl
      rotate_left
      · simp only [Act.put, List.setIfInBounds_toArray, List.set_cons_zero, List.set_cons_succ, i64_w, i32_w]
        rfl
      refine pure_ (i := 9) (N := some 42) (v := ?_) (a' := ?_) #[true, true, true, true, true, true, true, true, true, true, true, false, false] rfl rfl (by kernel_rfl) (fun _ _ _ h => h) (Or.inl ⟨by rfl, ?_⟩) ?_ ?_
      rotate_left
      · intro w'
        go_simp
        with_reducible rfl
      rotate_left
      · simp only [Act.put, List.setIfInBounds_toArray, List.set_cons_zero, List.set_cons_succ, i64_w, i32_w]
        rfl
      exact norm_ (by first | (simp only [putAll, Act.put, List.setIfInBounds_toArray, List.set_cons_zero, List.set_cons_succ]; done) | (simp only [putAll, Act.put, List.setIfInBounds_toArray, List.set_cons_zero, List.set_cons_succ]; rfl)) (hJ4 (B9, d9, B13, d13, B16, d16, B21, d21, gb3) _ ⟨lo21, hi21, hi21, HO21, BK1, BK2, BK3, HB, HT, GE3, ⟨by have hn_ := HN.out; (try dsimp only); omega⟩⟩)
  clear BK1 BK2 HB HT
  (try clear hHeld)
  intro s_ W32 hF
  obtain ⟨B9, d9, B13, d13, B16, d16, B21, d21, gb3⟩ := s_
  (try dsimp only at hF)
  obtain ⟨lo21, hi21, T4_, HO21, BK1, BK2, BK3, HB, HT, GE3, nn_⟩ := hF
  replace HN := Aside0.mk (And.intro nn_.out HN.out)
  clear nn_
  refine norm_ (a' := ?_) ?_ ?_
  rotate_left
  · simp only [putAll, Act.put, List.setIfInBounds_toArray, List.set_cons_zero, List.set_cons_succ]
    rfl
  refine one_ (i := 11) (N := none) #[true, true, true, true, true, true, true, true, true, true, true, true, false] rfl rfl (by kernel_rfl) (by decide) (fun K hK => ?_)
  refine laws_FnExactRideOver.storeK (by rfl) rfl rfl gb3 39 #[.slice none 0 0, .bool false] (.agg #[.slice B21 t18.length d21, .bool t19]) [.slice B21 t18.length d21, .bool t19] rfl rfl BK3.out rfl (by kernel_rfl) rfl (by intro q_ hq_; simp only [List.mem_cons, List.not_mem_nil, or_false] at hq_; rcases hq_ with rfl | rfl <;> rfl) ?_
  intro W33 hbx hg
  replace HO21 := Aside0.mk (laws_FnExactRideOver.grownR HO21.out hg (by have hn_ := HN.out; omega))
  replace BK1 := Aside0.mk (laws_FnExactRideOver.grownB BK1.out hg (by have hn_ := HN.out; omega))
  replace BK2 := Aside0.mk (laws_FnExactRideOver.grownB BK2.out hg (by have hn_ := HN.out; omega))
  replace HB := Aside0.mk (Below.grown HB.out hg (below_size HB.out) (fun k_ hk_ => by injection hk_ with hk_; subst hk_; exact GE3.out))
  replace HT := Aside0.mk (Nat.le_trans HT.out hg.size)
  replace BK3 := Aside0.mk hbx
  clear hbx hg
  refine hK.out _ _ ⟨(blk_cell BK1.out 0).trans rfl, (blk_cell BK1.out 1).trans rfl, (blk_cell BK1.out 2).trans rfl, (blk_cell BK2.out 0).trans rfl, (blk_cell BK2.out 1).trans rfl⟩ (fun hHeld => ?_)
  clear hK K
  refine pure_ (i := 12) (N := some 9) (v := ?_) (a' := ?_) #[true, true, true, true, true, true, true, true, true, true, true, true, true] rfl rfl (by kernel_rfl) (fun _ _ _ h => h) (Or.inl ⟨by rfl, ?_⟩) ?_ ?_
  rotate_left
  · intro w'
    go_simp
    with_reducible rfl
  rotate_left
  · simp only [Act.put, List.setIfInBounds_toArray, List.set_cons_zero, List.set_cons_succ, i64_w, i32_w]
    rfl
  refine done_ (by kernel_rfl) ?_
  have cz1_0 : W33.cell? ⟨gb1, 0, none⟩ = some (.int .i64 a0_0) := (blk_cell BK1.out 0).trans rfl
  have cz1_1 : W33.cell? ⟨gb1, 1, none⟩ = some (.slice A0_1 l0_1.length c0_1) := (blk_cell BK1.out 1).trans rfl
  have cz1_2 : W33.cell? ⟨gb1, 2, none⟩ = some (.int .i64 a0_2) := (blk_cell BK1.out 2).trans rfl
  try go_wp2_with (first | ((with_reducible refine gate_dst (N := 44) rfl ?_); refine goesL_ (some 44) rfl rfl Try.func14 (by kernel_rfl) rfl #[.agg #[.int .i64 a0_0, .slice A0_1 l0_1.length c0_1, .int .i64 a0_2]] rfl (by (try simp only [List.map_toArray, List.map_cons, List.map_nil]); first | done | rfl) ?_; (with_reducible refine (laws_toKeep.calls k a0_0 _ _ l0_1 a0_2 t23 t24 t25 _ (Kd.C_below HR0_1.out HB.out) HC0_1.out A22.out).mono ?_); rintro e W34 ⟨v26, rfl, ho26, hb⟩; refine ⟨_, rfl, ?_⟩; obtain ⟨B26, d26, e_⟩ := Kd.S_slice ho26; subst e_; obtain ⟨lo26, hi26, nn, ht_, hO26⟩ := laws_FnExactRideOver.newS ho26 HT.out (below_size HB.out) hb.size; replace HO21 := Aside0.mk (Kd.R_below HO21.out hb); replace BK1 := Aside0.mk (blk_below (g := gb1) (o := .cells #[.int .i64 a0_0, .slice A0_1 l0_1.length c0_1, .int .i64 a0_2] 24 (0, 0)) BK1.out hb); replace BK2 := Aside0.mk (blk_below (g := gb2) (o := .cells #[.slice A1_0 l1_0.length c1_0, .bool a1_1] 35 (0, 0)) BK2.out hb); replace BK3 := Aside0.mk (blk_below (g := gb3) (o := .cells #[.slice B21 t18.length d21, .bool t19] 39 (0, 0)) BK3.out hb); replace HB := Aside0.mk (below_step HB.out hb); replace HT := Aside0.mk (Nat.le_trans HT.out hb.size); have HO26 := Aside0.mk hO26; replace HT := Aside0.mk ht_; replace HN := Aside0.mk (And.intro nn HN.out); clear ho26 hO26 nn ht_; clear hb; (try clear cz1_0 cz1_1 cz1_2)) | ((with_reducible refine gate_dst (N := 10) rfl ?_); refine box_event ?hg (N := 10) ?hd (cs := #[.int .i64 0, .slice none 0 0, .int .i64 0]) (t := 27) ?hr ?_; (case hd => rfl); (case hg => rfl); (case hr => first | (go_simp; done) | (go_simp; rfl)); intro gb4 hg W35 hbox hb; have nn : hi26 ≤ gb4 := Nat.le_trans HT.out (Nat.le_of_eq hg.symm); have GE4 := Aside0.mk (Nat.le_trans (below_size HB.out) (Nat.le_of_eq hg.symm)); replace HO21 := Aside0.mk (Kd.R_below HO21.out hb); replace HO26 := Aside0.mk (Kd.S_below HO26.out hb); replace BK1 := Aside0.mk (blk_below (g := gb1) (o := .cells #[.int .i64 a0_0, .slice A0_1 l0_1.length c0_1, .int .i64 a0_2] 24 (0, 0)) BK1.out hb); replace BK2 := Aside0.mk (blk_below (g := gb2) (o := .cells #[.slice A1_0 l1_0.length c1_0, .bool a1_1] 35 (0, 0)) BK2.out hb); replace BK3 := Aside0.mk (blk_below (g := gb3) (o := .cells #[.slice B21 t18.length d21, .bool t19] 39 (0, 0)) BK3.out hb); replace HB := Aside0.mk (below_step HB.out hb); replace HT := Aside0.mk (Nat.le_trans HT.out hb.size); have BK4 := Aside0.mk hbox; replace HT := Aside0.mk (Nat.succ_le_of_lt (blk_lt hbox)); replace HN := Aside0.mk (And.intro nn HN.out); clear hg hbox hb nn) | ((with_reducible refine gate_store (t := 27) (p := 10) rfl ?_); refine laws_FnExactRideOver.store rfl rfl rfl gb4 27 #[.int .i64 0, .slice none 0 0, .int .i64 0] (.agg #[.int .i64 t23, .slice B26 t24.length d26, .int .i64 t25]) [.int .i64 t23, .slice B26 t24.length d26, .int .i64 t25] rfl rfl BK4.out rfl (by kernel_rfl) rfl (by intro q_ hq_; simp only [List.mem_cons, List.not_mem_nil, or_false] at hq_; rcases hq_ with rfl | rfl | rfl <;> rfl) ?_; intro W36 hbx hg; replace HO21 := Aside0.mk (laws_FnExactRideOver.grownR HO21.out hg (by have hn_ := HN.out; omega)); replace HO26 := Aside0.mk (laws_FnExactRideOver.grownS HO26.out hg (by have hn_ := HN.out; omega)); replace BK1 := Aside0.mk (laws_FnExactRideOver.grownB BK1.out hg (by have hn_ := HN.out; omega)); replace BK2 := Aside0.mk (laws_FnExactRideOver.grownB BK2.out hg (by have hn_ := HN.out; omega)); replace BK3 := Aside0.mk (laws_FnExactRideOver.grownB BK3.out hg (by have hn_ := HN.out; omega)); replace HB := Aside0.mk (Below.grown HB.out hg (below_size HB.out) (fun k_ hk_ => by injection hk_ with hk_; subst hk_; exact GE4.out)); replace HT := Aside0.mk (Nat.le_trans HT.out hg.size); replace BK4 := Aside0.mk hbx; clear hbx hg; have cz2_0 : W36.cell? ⟨gb2, 0, none⟩ = some (.slice A1_0 l1_0.length c1_0) := (blk_cell BK2.out 0).trans rfl; have cz2_1 : W36.cell? ⟨gb2, 1, none⟩ = some (.bool a1_1) := (blk_cell BK2.out 1).trans rfl) | ((with_reducible refine gate_dst (N := 46) rfl ?_); refine goesL_ (some 46) rfl rfl Try.func21 (by kernel_rfl) rfl #[.agg #[.slice A1_0 l1_0.length c1_0, .bool a1_1]] rfl (by (try simp only [List.map_toArray, List.map_cons, List.map_nil]); first | done | rfl) ?_; (with_reducible refine (laws_toBank.calls k _ _ l1_0 a1_1 t28 t29 _ (Kd.C_below HR1_0.out HB.out) HC1_0.out A27.out).mono ?_); rintro e W37 ⟨v30, rfl, ho30, hb⟩; refine ⟨_, rfl, ?_⟩; obtain ⟨B30, d30, e_⟩ := Kd.R_slice ho30; subst e_; obtain ⟨lo30, hi30, nn, ht_, hO30⟩ := laws_FnExactRideOver.newR ho30 HT.out (below_size HB.out) hb.size; replace HO21 := Aside0.mk (Kd.R_below HO21.out hb); replace HO26 := Aside0.mk (Kd.S_below HO26.out hb); replace BK1 := Aside0.mk (blk_below (g := gb1) (o := .cells #[.int .i64 a0_0, .slice A0_1 l0_1.length c0_1, .int .i64 a0_2] 24 (0, 0)) BK1.out hb); replace BK2 := Aside0.mk (blk_below (g := gb2) (o := .cells #[.slice A1_0 l1_0.length c1_0, .bool a1_1] 35 (0, 0)) BK2.out hb); replace BK3 := Aside0.mk (blk_below (g := gb3) (o := .cells #[.slice B21 t18.length d21, .bool t19] 39 (0, 0)) BK3.out hb); replace BK4 := Aside0.mk (blk_below (g := gb4) (o := .cells #[.int .i64 t23, .slice B26 t24.length d26, .int .i64 t25] 27 (0, 0)) BK4.out hb); replace HB := Aside0.mk (below_step HB.out hb); replace HT := Aside0.mk (Nat.le_trans HT.out hb.size); have HO30 := Aside0.mk hO30; replace HT := Aside0.mk ht_; replace HN := Aside0.mk (And.intro nn HN.out); clear ho30 hO30 nn ht_; clear hb; (try clear cz2_0 cz2_1)) | ((with_reducible refine gate_dst (N := 11) rfl ?_); refine box_event ?hg (N := 11) ?hd (cs := #[.slice none 0 0, .bool false]) (t := 39) ?hr ?_; (case hd => rfl); (case hg => rfl); (case hr => first | (go_simp; done) | (go_simp; rfl)); intro gb5 hg W38 hbox hb; have nn : hi30 ≤ gb5 := Nat.le_trans HT.out (Nat.le_of_eq hg.symm); have GE5 := Aside0.mk (Nat.le_trans (below_size HB.out) (Nat.le_of_eq hg.symm)); replace HO21 := Aside0.mk (Kd.R_below HO21.out hb); replace HO26 := Aside0.mk (Kd.S_below HO26.out hb); replace HO30 := Aside0.mk (Kd.R_below HO30.out hb); replace BK1 := Aside0.mk (blk_below (g := gb1) (o := .cells #[.int .i64 a0_0, .slice A0_1 l0_1.length c0_1, .int .i64 a0_2] 24 (0, 0)) BK1.out hb); replace BK2 := Aside0.mk (blk_below (g := gb2) (o := .cells #[.slice A1_0 l1_0.length c1_0, .bool a1_1] 35 (0, 0)) BK2.out hb); replace BK3 := Aside0.mk (blk_below (g := gb3) (o := .cells #[.slice B21 t18.length d21, .bool t19] 39 (0, 0)) BK3.out hb); replace BK4 := Aside0.mk (blk_below (g := gb4) (o := .cells #[.int .i64 t23, .slice B26 t24.length d26, .int .i64 t25] 27 (0, 0)) BK4.out hb); replace HB := Aside0.mk (below_step HB.out hb); replace HT := Aside0.mk (Nat.le_trans HT.out hb.size); have BK5 := Aside0.mk hbox; replace HT := Aside0.mk (Nat.succ_le_of_lt (blk_lt hbox)); replace HN := Aside0.mk (And.intro nn HN.out); clear hg hbox hb nn) | ((with_reducible refine gate_store (t := 39) (p := 11) rfl ?_); refine laws_FnExactRideOver.store rfl rfl rfl gb5 39 #[.slice none 0 0, .bool false] (.agg #[.slice B30 t28.length d30, .bool t29]) [.slice B30 t28.length d30, .bool t29] rfl rfl BK5.out rfl (by kernel_rfl) rfl (by intro q_ hq_; simp only [List.mem_cons, List.not_mem_nil, or_false] at hq_; rcases hq_ with rfl | rfl <;> rfl) ?_; intro W39 hbx hg; replace HO21 := Aside0.mk (laws_FnExactRideOver.grownR HO21.out hg (by have hn_ := HN.out; omega)); replace HO26 := Aside0.mk (laws_FnExactRideOver.grownS HO26.out hg (by have hn_ := HN.out; omega)); replace HO30 := Aside0.mk (laws_FnExactRideOver.grownR HO30.out hg (by have hn_ := HN.out; omega)); replace BK1 := Aside0.mk (laws_FnExactRideOver.grownB BK1.out hg (by have hn_ := HN.out; omega)); replace BK2 := Aside0.mk (laws_FnExactRideOver.grownB BK2.out hg (by have hn_ := HN.out; omega)); replace BK3 := Aside0.mk (laws_FnExactRideOver.grownB BK3.out hg (by have hn_ := HN.out; omega)); replace BK4 := Aside0.mk (laws_FnExactRideOver.grownB BK4.out hg (by have hn_ := HN.out; omega)); replace HB := Aside0.mk (Below.grown HB.out hg (below_size HB.out) (fun k_ hk_ => by injection hk_ with hk_; subst hk_; exact GE5.out)); replace HT := Aside0.mk (Nat.le_trans HT.out hg.size); replace BK5 := Aside0.mk hbx; clear hbx hg) | ((with_reducible refine gate_dst (N := 48) rfl ?_); refine goesL_ (some 48) rfl rfl Try.func37 (by kernel_rfl) rfl #[.slice A2 l2.length c2] rfl (by (try simp only [List.map_toArray, List.map_cons, List.map_nil]); first | done | rfl) ?_; (with_reducible refine (laws_toIntS.calls k _ _ l2 t32 _ (Kd.C_below HR2.out HB.out) HC2.out A31.out).mono ?_); rintro e W40 ⟨v33, rfl, ho33, hb⟩; refine ⟨_, rfl, ?_⟩; obtain ⟨B33, d33, e_⟩ := Kd.R_slice ho33; subst e_; obtain ⟨lo33, hi33, nn, ht_, hO33⟩ := laws_FnExactRideOver.newR ho33 HT.out (below_size HB.out) hb.size; replace HO21 := Aside0.mk (Kd.R_below HO21.out hb); replace HO26 := Aside0.mk (Kd.S_below HO26.out hb); replace HO30 := Aside0.mk (Kd.R_below HO30.out hb); replace BK1 := Aside0.mk (blk_below (g := gb1) (o := .cells #[.int .i64 a0_0, .slice A0_1 l0_1.length c0_1, .int .i64 a0_2] 24 (0, 0)) BK1.out hb); replace BK2 := Aside0.mk (blk_below (g := gb2) (o := .cells #[.slice A1_0 l1_0.length c1_0, .bool a1_1] 35 (0, 0)) BK2.out hb); replace BK3 := Aside0.mk (blk_below (g := gb3) (o := .cells #[.slice B21 t18.length d21, .bool t19] 39 (0, 0)) BK3.out hb); replace BK4 := Aside0.mk (blk_below (g := gb4) (o := .cells #[.int .i64 t23, .slice B26 t24.length d26, .int .i64 t25] 27 (0, 0)) BK4.out hb); replace BK5 := Aside0.mk (blk_below (g := gb5) (o := .cells #[.slice B30 t28.length d30, .bool t29] 39 (0, 0)) BK5.out hb); replace HB := Aside0.mk (below_step HB.out hb); replace HT := Aside0.mk (Nat.le_trans HT.out hb.size); have HO33 := Aside0.mk hO33; replace HT := Aside0.mk ht_; replace HN := Aside0.mk (And.intro nn HN.out); clear ho33 hO33 nn ht_; clear hb; have cz4_0 : W40.cell? ⟨gb4, 0, none⟩ = some (.int .i64 t23) := (blk_cell BK4.out 0).trans rfl; have cz4_1 : W40.cell? ⟨gb4, 1, none⟩ = some (.slice B26 t24.length d26) := (blk_cell BK4.out 1).trans rfl; have cz4_2 : W40.cell? ⟨gb4, 2, none⟩ = some (.int .i64 t25) := (blk_cell BK4.out 2).trans rfl; have cz5_0 : W40.cell? ⟨gb5, 0, none⟩ = some (.slice B30 t28.length d30) := (blk_cell BK5.out 0).trans rfl; have cz5_1 : W40.cell? ⟨gb5, 1, none⟩ = some (.bool t29) := (blk_cell BK5.out 1).trans rfl) | ((with_reducible refine gate_dst (N := 53) rfl ?_); refine goesL_ (some 53) rfl rfl Try.func38 (by kernel_rfl) rfl #[.agg #[.int .i64 t23, .slice B26 t24.length d26, .int .i64 t25], .agg #[.slice B30 t28.length d30, .bool t29], .slice B33 t32.length d33] rfl (by (try simp only [List.map_toArray, List.map_cons, List.map_nil]); first | done | rfl) ?_; (with_reducible refine (impl_RideOver.calls k t23 _ _ t24 t25 _ _ t28 t29 _ _ t32 t35 t36 t37 _ (Kd.R_reads' (Kd.S_R HO26.out)).2.2 (Kd.R_reads' (Kd.S_R HO26.out)).2.1 (Kd.R_reads' HO30.out).2.2 (Kd.R_reads' HO30.out).2.1 (Kd.R_reads' HO33.out).2.2 (Kd.R_reads' HO33.out).2.1 A34.out).mono ?_); rintro e W41 ⟨v38, rfl, ho38, hb⟩; refine ⟨_, rfl, ?_⟩; obtain ⟨B38, d38, e_⟩ := Kd.R_slice ho38; subst e_; obtain ⟨lo38, hi38, nn, ht_, hO38⟩ := laws_FnExactRideOver.newR ho38 HT.out (below_size HB.out) hb.size; replace HO21 := Aside0.mk (Kd.R_below HO21.out hb); replace HO26 := Aside0.mk (Kd.S_below HO26.out hb); replace HO30 := Aside0.mk (Kd.R_below HO30.out hb); replace HO33 := Aside0.mk (Kd.R_below HO33.out hb); replace BK1 := Aside0.mk (blk_below (g := gb1) (o := .cells #[.int .i64 a0_0, .slice A0_1 l0_1.length c0_1, .int .i64 a0_2] 24 (0, 0)) BK1.out hb); replace BK2 := Aside0.mk (blk_below (g := gb2) (o := .cells #[.slice A1_0 l1_0.length c1_0, .bool a1_1] 35 (0, 0)) BK2.out hb); replace BK3 := Aside0.mk (blk_below (g := gb3) (o := .cells #[.slice B21 t18.length d21, .bool t19] 39 (0, 0)) BK3.out hb); replace BK4 := Aside0.mk (blk_below (g := gb4) (o := .cells #[.int .i64 t23, .slice B26 t24.length d26, .int .i64 t25] 27 (0, 0)) BK4.out hb); replace BK5 := Aside0.mk (blk_below (g := gb5) (o := .cells #[.slice B30 t28.length d30, .bool t29] 39 (0, 0)) BK5.out hb); replace HB := Aside0.mk (below_step HB.out hb); replace HT := Aside0.mk (Nat.le_trans HT.out hb.size); have HO38 := Aside0.mk hO38; replace HT := Aside0.mk ht_; replace HN := Aside0.mk (And.intro nn HN.out); clear ho38 hO38 nn ht_; clear hb; (try clear cz4_0 cz4_1 cz4_2 cz5_0 cz5_1)) | ((with_reducible refine gate_dst (N := 13) rfl ?_); refine box_event ?hg (N := 13) ?hd (cs := #[.slice none 0 0, .bool false]) (t := 39) ?hr ?_; (case hd => rfl); (case hg => rfl); (case hr => first | (go_simp; done) | (go_simp; rfl)); intro gb6 hg W42 hbox hb; have nn : hi38 ≤ gb6 := Nat.le_trans HT.out (Nat.le_of_eq hg.symm); have GE6 := Aside0.mk (Nat.le_trans (below_size HB.out) (Nat.le_of_eq hg.symm)); replace HO21 := Aside0.mk (Kd.R_below HO21.out hb); replace HO26 := Aside0.mk (Kd.S_below HO26.out hb); replace HO30 := Aside0.mk (Kd.R_below HO30.out hb); replace HO33 := Aside0.mk (Kd.R_below HO33.out hb); replace HO38 := Aside0.mk (Kd.R_below HO38.out hb); replace BK1 := Aside0.mk (blk_below (g := gb1) (o := .cells #[.int .i64 a0_0, .slice A0_1 l0_1.length c0_1, .int .i64 a0_2] 24 (0, 0)) BK1.out hb); replace BK2 := Aside0.mk (blk_below (g := gb2) (o := .cells #[.slice A1_0 l1_0.length c1_0, .bool a1_1] 35 (0, 0)) BK2.out hb); replace BK3 := Aside0.mk (blk_below (g := gb3) (o := .cells #[.slice B21 t18.length d21, .bool t19] 39 (0, 0)) BK3.out hb); replace BK4 := Aside0.mk (blk_below (g := gb4) (o := .cells #[.int .i64 t23, .slice B26 t24.length d26, .int .i64 t25] 27 (0, 0)) BK4.out hb); replace BK5 := Aside0.mk (blk_below (g := gb5) (o := .cells #[.slice B30 t28.length d30, .bool t29] 39 (0, 0)) BK5.out hb); replace HB := Aside0.mk (below_step HB.out hb); replace HT := Aside0.mk (Nat.le_trans HT.out hb.size); have BK6 := Aside0.mk hbox; replace HT := Aside0.mk (Nat.succ_le_of_lt (blk_lt hbox)); replace HN := Aside0.mk (And.intro nn HN.out); clear hg hbox hb nn) | ((with_reducible refine gate_store (t := 39) (p := 13) rfl ?_); refine laws_FnExactRideOver.store rfl rfl rfl gb6 39 #[.slice none 0 0, .bool false] (.agg #[.slice B38 t35.length d38, .bool t36]) [.slice B38 t35.length d38, .bool t36] rfl rfl BK6.out rfl (by kernel_rfl) rfl (by intro q_ hq_; simp only [List.mem_cons, List.not_mem_nil, or_false] at hq_; rcases hq_ with rfl | rfl <;> rfl) ?_; intro W43 hbx hg; replace HO21 := Aside0.mk (laws_FnExactRideOver.grownR HO21.out hg (by have hn_ := HN.out; omega)); replace HO26 := Aside0.mk (laws_FnExactRideOver.grownS HO26.out hg (by have hn_ := HN.out; omega)); replace HO30 := Aside0.mk (laws_FnExactRideOver.grownR HO30.out hg (by have hn_ := HN.out; omega)); replace HO33 := Aside0.mk (laws_FnExactRideOver.grownR HO33.out hg (by have hn_ := HN.out; omega)); replace HO38 := Aside0.mk (laws_FnExactRideOver.grownR HO38.out hg (by have hn_ := HN.out; omega)); replace BK1 := Aside0.mk (laws_FnExactRideOver.grownB BK1.out hg (by have hn_ := HN.out; omega)); replace BK2 := Aside0.mk (laws_FnExactRideOver.grownB BK2.out hg (by have hn_ := HN.out; omega)); replace BK3 := Aside0.mk (laws_FnExactRideOver.grownB BK3.out hg (by have hn_ := HN.out; omega)); replace BK4 := Aside0.mk (laws_FnExactRideOver.grownB BK4.out hg (by have hn_ := HN.out; omega)); replace BK5 := Aside0.mk (laws_FnExactRideOver.grownB BK5.out hg (by have hn_ := HN.out; omega)); replace HB := Aside0.mk (Below.grown HB.out hg (below_size HB.out) (fun k_ hk_ => by injection hk_ with hk_; subst hk_; exact GE6.out)); replace HT := Aside0.mk (Nat.le_trans HT.out hg.size); replace BK6 := Aside0.mk hbx; clear hbx hg; have cz6_0 : W43.cell? ⟨gb6, 0, none⟩ = some (.slice B38 t35.length d38) := (blk_cell BK6.out 0).trans rfl; have cz6_1 : W43.cell? ⟨gb6, 1, none⟩ = some (.bool t36) := (blk_cell BK6.out 1).trans rfl; have cz3_0 : W43.cell? ⟨gb3, 0, none⟩ = some (.slice B21 t18.length d21) := (blk_cell BK3.out 0).trans rfl; have cz3_1 : W43.cell? ⟨gb3, 1, none⟩ = some (.bool t19) := (blk_cell BK3.out 1).trans rfl) | ((with_reducible refine gate_dst (N := 58) rfl ?_); refine goesL_ (some 58) rfl rfl Try.func23 (by kernel_rfl) rfl #[.agg #[.slice B38 t35.length d38, .bool t36], .agg #[.slice B21 t18.length d21, .bool t19]] rfl (by (try simp only [List.map_toArray, List.map_cons, List.map_nil]); first | done | rfl) ?_; (with_reducible refine (laws_eqBank.calls k _ _ t35 t36 _ _ t18 t19 true _ (Kd.R_reads' HO38.out).2.2 (Kd.R_reads' HO38.out).2.1 (Kd.R_reads' HO21.out).2.2 (Kd.R_reads' HO21.out).2.1 A39.out).mono ?_); rintro e W44 ⟨rfl, hb⟩; refine ⟨_, rfl, ?_⟩; replace HO21 := Aside0.mk (Kd.R_below HO21.out hb); replace HO26 := Aside0.mk (Kd.S_below HO26.out hb); replace HO30 := Aside0.mk (Kd.R_below HO30.out hb); replace HO33 := Aside0.mk (Kd.R_below HO33.out hb); replace HO38 := Aside0.mk (Kd.R_below HO38.out hb); replace BK1 := Aside0.mk (blk_below (g := gb1) (o := .cells #[.int .i64 a0_0, .slice A0_1 l0_1.length c0_1, .int .i64 a0_2] 24 (0, 0)) BK1.out hb); replace BK2 := Aside0.mk (blk_below (g := gb2) (o := .cells #[.slice A1_0 l1_0.length c1_0, .bool a1_1] 35 (0, 0)) BK2.out hb); replace BK3 := Aside0.mk (blk_below (g := gb3) (o := .cells #[.slice B21 t18.length d21, .bool t19] 39 (0, 0)) BK3.out hb); replace BK4 := Aside0.mk (blk_below (g := gb4) (o := .cells #[.int .i64 t23, .slice B26 t24.length d26, .int .i64 t25] 27 (0, 0)) BK4.out hb); replace BK5 := Aside0.mk (blk_below (g := gb5) (o := .cells #[.slice B30 t28.length d30, .bool t29] 39 (0, 0)) BK5.out hb); replace BK6 := Aside0.mk (blk_below (g := gb6) (o := .cells #[.slice B38 t35.length d38, .bool t36] 39 (0, 0)) BK6.out hb); replace HB := Aside0.mk (below_step HB.out hb); replace HT := Aside0.mk (Nat.le_trans HT.out hb.size); clear hb; (try clear cz6_0 cz6_1 cz3_0 cz3_1)))
  have hb : Below W44.heap.size W44 W44.drew := below_drew (Below.refl _ _)
  replace HO21 := Aside0.mk (Kd.R_below HO21.out hb)
  replace HO26 := Aside0.mk (Kd.S_below HO26.out hb)
  replace HO30 := Aside0.mk (Kd.R_below HO30.out hb)
  replace HO33 := Aside0.mk (Kd.R_below HO33.out hb)
  replace HO38 := Aside0.mk (Kd.R_below HO38.out hb)
  replace BK1 := Aside0.mk (blk_below (g := gb1) (o := .cells #[.int .i64 a0_0, .slice A0_1 l0_1.length c0_1, .int .i64 a0_2] 24 (0, 0)) BK1.out hb)
  replace BK2 := Aside0.mk (blk_below (g := gb2) (o := .cells #[.slice A1_0 l1_0.length c1_0, .bool a1_1] 35 (0, 0)) BK2.out hb)
  replace BK3 := Aside0.mk (blk_below (g := gb3) (o := .cells #[.slice B21 t18.length d21, .bool t19] 39 (0, 0)) BK3.out hb)
  replace BK4 := Aside0.mk (blk_below (g := gb4) (o := .cells #[.int .i64 t23, .slice B26 t24.length d26, .int .i64 t25] 27 (0, 0)) BK4.out hb)
  replace BK5 := Aside0.mk (blk_below (g := gb5) (o := .cells #[.slice B30 t28.length d30, .bool t29] 39 (0, 0)) BK5.out hb)
  replace BK6 := Aside0.mk (blk_below (g := gb6) (o := .cells #[.slice B38 t35.length d38, .bool t36] 39 (0, 0)) BK6.out hb)
  replace HB := Aside0.mk (below_step HB.out hb)
  replace HT := Aside0.mk (Nat.le_trans HT.out hb.size)
  clear hb
  refine start_ (n := 5) (S := fun w' => w'.cell? ⟨gb4, 0, none⟩ = some (.int .i64 t23) ∧ w'.cell? ⟨gb4, 1, none⟩ = some (.slice B26 t24.length d26) ∧ w'.cell? ⟨gb4, 2, none⟩ = some (.int .i64 t25) ∧ w'.cell? ⟨gb1, 0, none⟩ = some (.int .i64 a0_0) ∧ w'.cell? ⟨gb1, 1, none⟩ = some (.slice A0_1 l0_1.length c0_1) ∧ w'.cell? ⟨gb1, 2, none⟩ = some (.int .i64 a0_2)) (ds := []) #[false, false, false, false, false] (by kernel_rfl) rfl rfl ⟨(blk_cell BK4.out 0).trans rfl, (blk_cell BK4.out 1).trans rfl, (blk_cell BK4.out 2).trans rfl, (blk_cell BK1.out 0).trans rfl, (blk_cell BK1.out 1).trans rfl, (blk_cell BK1.out 2).trans rfl⟩ (fun hHeld => ?_)
  generalize W44.drew = W45 at HO21 HO26 HO30 HO33 HO38 BK1 BK2 BK3 BK4 BK5 BK6 HB HT hHeld ⊢
  refine take_ (i := 0) (N := some 65) (v := ?_) (a' := ?_) #[true, false, false, false, false] rfl rfl (by kernel_rfl) (fun _ _ _ h => h) (Or.inl ⟨by rfl, ?_⟩) hHeld ?_ ?_
  rotate_left
  · rintro w' ⟨s0, s1, s2, s3, s4, s5⟩
    go_simp
    with_reducible rfl
  rotate_left
  · simp only [Act.put, List.setIfInBounds_toArray, List.set_cons_zero, List.set_cons_succ, i64_w, i32_w]
    rfl
  refine take_ (i := 1) (N := some 66) (v := ?_) (a' := ?_) #[true, true, false, false, false] rfl rfl (by kernel_rfl) (fun _ _ _ h => h) (Or.inl ⟨by rfl, ?_⟩) hHeld ?_ ?_
  rotate_left
  · rintro w' ⟨s0, s1, s2, s3, s4, s5⟩
    go_simp
    with_reducible rfl
  rotate_left
  · simp only [Act.put, List.setIfInBounds_toArray, List.set_cons_zero, List.set_cons_succ, i64_w, i32_w]
    rfl
  refine one_ (i := 2) (N := some 67) #[true, true, true, false, false] rfl rfl (by kernel_rfl) (by decide) (fun K hK => ?_)
  refine goes_ Try.func14 (by kernel_rfl) rfl #[.agg #[.int .i64 a0_0, .slice A0_1 l0_1.length c0_1, .int .i64 a0_2]] (by rfl) rfl rfl (by (try simp only [List.map_toArray, List.map_cons, List.map_nil]); first | done | rfl) ?_
  with_reducible refine (laws_toKeep.calls k a0_0 _ _ l0_1 a0_2 t42 t43 t44 _ (Kd.C_below HR0_1.out HB.out) HC0_1.out A41.out).mono ?_
  rintro e W46 ⟨v45, rfl, ho45, hb⟩
  refine ⟨_, rfl, ?_⟩
  obtain ⟨B45, d45, e_⟩ := Kd.S_slice ho45
  subst e_
  obtain ⟨lo45, hi45, nn, ht_, hO45⟩ := laws_FnExactRideOver.newS ho45 HT.out (below_size HB.out) hb.size
  replace HO21 := Aside0.mk (Kd.R_below HO21.out hb)
  replace HO26 := Aside0.mk (Kd.S_below HO26.out hb)
  replace HO30 := Aside0.mk (Kd.R_below HO30.out hb)
  replace HO33 := Aside0.mk (Kd.R_below HO33.out hb)
  replace HO38 := Aside0.mk (Kd.R_below HO38.out hb)
  replace BK1 := Aside0.mk (blk_below (g := gb1) (o := .cells #[.int .i64 a0_0, .slice A0_1 l0_1.length c0_1, .int .i64 a0_2] 24 (0, 0)) BK1.out hb)
  replace BK2 := Aside0.mk (blk_below (g := gb2) (o := .cells #[.slice A1_0 l1_0.length c1_0, .bool a1_1] 35 (0, 0)) BK2.out hb)
  replace BK3 := Aside0.mk (blk_below (g := gb3) (o := .cells #[.slice B21 t18.length d21, .bool t19] 39 (0, 0)) BK3.out hb)
  replace BK4 := Aside0.mk (blk_below (g := gb4) (o := .cells #[.int .i64 t23, .slice B26 t24.length d26, .int .i64 t25] 27 (0, 0)) BK4.out hb)
  replace BK5 := Aside0.mk (blk_below (g := gb5) (o := .cells #[.slice B30 t28.length d30, .bool t29] 39 (0, 0)) BK5.out hb)
  replace BK6 := Aside0.mk (blk_below (g := gb6) (o := .cells #[.slice B38 t35.length d38, .bool t36] 39 (0, 0)) BK6.out hb)
  replace HB := Aside0.mk (below_step HB.out hb)
  replace HT := Aside0.mk (Nat.le_trans HT.out hb.size)
  have HO45 := Aside0.mk hO45
  replace HT := Aside0.mk ht_
  replace HN := Aside0.mk (And.intro nn HN.out)
  clear ho45 hO45 nn ht_
  clear hb
  refine hK.out _ _ ⟨(blk_cell BK4.out 0).trans rfl, (blk_cell BK4.out 1).trans rfl, (blk_cell BK4.out 2).trans rfl, (blk_cell BK1.out 0).trans rfl, (blk_cell BK1.out 1).trans rfl, (blk_cell BK1.out 2).trans rfl⟩ (fun hHeld => ?_)
  clear hK K
  refine norm_ (a' := ?_) ?_ ?_
  rotate_left
  · show Act.put _ (some 67) _ = _
    simp only [Act.put, List.setIfInBounds_toArray, List.set_cons_zero, List.set_cons_succ, i64_w, i32_w]
    rfl
  refine one_ (i := 3) (N := some 68) #[true, true, true, true, false] rfl rfl (by kernel_rfl) (by decide) (fun K hK => ?_)
  refine goes_ Try.func16 (by kernel_rfl) rfl #[.agg #[.int .i64 t23, .slice B26 t24.length d26, .int .i64 t25], .agg #[.int .i64 t42, .slice B45 t43.length d45, .int .i64 t44]] (by rfl) rfl rfl (by (try simp only [List.map_toArray, List.map_cons, List.map_nil]); first | done | rfl) ?_
  with_reducible refine (laws_eqKeep.calls k t23 _ _ t24 t25 t42 _ _ t43 t44 true _ (Kd.R_reads' (Kd.S_R HO26.out)).2.2 (Kd.R_reads' (Kd.S_R HO26.out)).2.1 (Kd.R_reads' (Kd.S_R HO45.out)).2.2 (Kd.R_reads' (Kd.S_R HO45.out)).2.1 A46.out).mono ?_
  rintro e W47 ⟨rfl, hb⟩
  refine ⟨_, rfl, ?_⟩
  replace HO21 := Aside0.mk (Kd.R_below HO21.out hb)
  replace HO26 := Aside0.mk (Kd.S_below HO26.out hb)
  replace HO30 := Aside0.mk (Kd.R_below HO30.out hb)
  replace HO33 := Aside0.mk (Kd.R_below HO33.out hb)
  replace HO38 := Aside0.mk (Kd.R_below HO38.out hb)
  replace HO45 := Aside0.mk (Kd.S_below HO45.out hb)
  replace BK1 := Aside0.mk (blk_below (g := gb1) (o := .cells #[.int .i64 a0_0, .slice A0_1 l0_1.length c0_1, .int .i64 a0_2] 24 (0, 0)) BK1.out hb)
  replace BK2 := Aside0.mk (blk_below (g := gb2) (o := .cells #[.slice A1_0 l1_0.length c1_0, .bool a1_1] 35 (0, 0)) BK2.out hb)
  replace BK3 := Aside0.mk (blk_below (g := gb3) (o := .cells #[.slice B21 t18.length d21, .bool t19] 39 (0, 0)) BK3.out hb)
  replace BK4 := Aside0.mk (blk_below (g := gb4) (o := .cells #[.int .i64 t23, .slice B26 t24.length d26, .int .i64 t25] 27 (0, 0)) BK4.out hb)
  replace BK5 := Aside0.mk (blk_below (g := gb5) (o := .cells #[.slice B30 t28.length d30, .bool t29] 39 (0, 0)) BK5.out hb)
  replace BK6 := Aside0.mk (blk_below (g := gb6) (o := .cells #[.slice B38 t35.length d38, .bool t36] 39 (0, 0)) BK6.out hb)
  replace HB := Aside0.mk (below_step HB.out hb)
  replace HT := Aside0.mk (Nat.le_trans HT.out hb.size)
  clear hb
  clear HO45
  refine hK.out _ _ ⟨(blk_cell BK4.out 0).trans rfl, (blk_cell BK4.out 1).trans rfl, (blk_cell BK4.out 2).trans rfl, (blk_cell BK1.out 0).trans rfl, (blk_cell BK1.out 1).trans rfl, (blk_cell BK1.out 2).trans rfl⟩ (fun hHeld => ?_)
  clear hK K
  refine norm_ (a' := ?_) ?_ ?_
  rotate_left
  · show Act.put _ (some 68) _ = _
    simp only [Act.put, List.setIfInBounds_toArray, List.set_cons_zero, List.set_cons_succ, i64_w, i32_w]
    rfl
  refine pure_ (i := 4) (N := some 69) (v := ?_) (a' := ?_) #[true, true, true, true, true] rfl rfl (by kernel_rfl) (fun _ _ _ h => h) (Or.inl ⟨by rfl, ?_⟩) ?_ ?_
  rotate_left
  · intro w'
    go_simp
    with_reducible rfl
  rotate_left
  · simp only [Act.put, List.setIfInBounds_toArray, List.set_cons_zero, List.set_cons_succ, i64_w, i32_w]
    rfl
  refine done_ (by kernel_rfl) ?_
  try go_wp2
  have hb : Below W47.heap.size W47 W47.drew := below_drew (Below.refl _ _)
  replace HO21 := Aside0.mk (Kd.R_below HO21.out hb)
  replace HO26 := Aside0.mk (Kd.S_below HO26.out hb)
  replace HO30 := Aside0.mk (Kd.R_below HO30.out hb)
  replace HO33 := Aside0.mk (Kd.R_below HO33.out hb)
  replace HO38 := Aside0.mk (Kd.R_below HO38.out hb)
  replace BK1 := Aside0.mk (blk_below (g := gb1) (o := .cells #[.int .i64 a0_0, .slice A0_1 l0_1.length c0_1, .int .i64 a0_2] 24 (0, 0)) BK1.out hb)
  replace BK2 := Aside0.mk (blk_below (g := gb2) (o := .cells #[.slice A1_0 l1_0.length c1_0, .bool a1_1] 35 (0, 0)) BK2.out hb)
  replace BK3 := Aside0.mk (blk_below (g := gb3) (o := .cells #[.slice B21 t18.length d21, .bool t19] 39 (0, 0)) BK3.out hb)
  replace BK4 := Aside0.mk (blk_below (g := gb4) (o := .cells #[.int .i64 t23, .slice B26 t24.length d26, .int .i64 t25] 27 (0, 0)) BK4.out hb)
  replace BK5 := Aside0.mk (blk_below (g := gb5) (o := .cells #[.slice B30 t28.length d30, .bool t29] 39 (0, 0)) BK5.out hb)
  replace BK6 := Aside0.mk (blk_below (g := gb6) (o := .cells #[.slice B38 t35.length d38, .bool t36] 39 (0, 0)) BK6.out hb)
  replace HB := Aside0.mk (below_step HB.out hb)
  replace HT := Aside0.mk (Nat.le_trans HT.out hb.size)
  clear hb
  refine start_ (n := 5) (S := fun w' => w'.cell? ⟨gb5, 0, none⟩ = some (.slice B30 t28.length d30) ∧ w'.cell? ⟨gb5, 1, none⟩ = some (.bool t29) ∧ w'.cell? ⟨gb2, 0, none⟩ = some (.slice A1_0 l1_0.length c1_0) ∧ w'.cell? ⟨gb2, 1, none⟩ = some (.bool a1_1)) (ds := []) #[false, false, false, false, false] (by kernel_rfl) rfl rfl ⟨(blk_cell BK5.out 0).trans rfl, (blk_cell BK5.out 1).trans rfl, (blk_cell BK2.out 0).trans rfl, (blk_cell BK2.out 1).trans rfl⟩ (fun hHeld => ?_)
  generalize W47.drew = W48 at HO21 HO26 HO30 HO33 HO38 BK1 BK2 BK3 BK4 BK5 BK6 HB HT hHeld ⊢
  refine take_ (i := 0) (N := some 70) (v := ?_) (a' := ?_) #[true, false, false, false, false] rfl rfl (by kernel_rfl) (fun _ _ _ h => h) (Or.inl ⟨by rfl, ?_⟩) hHeld ?_ ?_
  rotate_left
  · rintro w' ⟨s0, s1, s2, s3⟩
    go_simp
    with_reducible rfl
  rotate_left
  · simp only [Act.put, List.setIfInBounds_toArray, List.set_cons_zero, List.set_cons_succ, i64_w, i32_w]
    rfl
  refine take_ (i := 1) (N := some 71) (v := ?_) (a' := ?_) #[true, true, false, false, false] rfl rfl (by kernel_rfl) (fun _ _ _ h => h) (Or.inl ⟨by rfl, ?_⟩) hHeld ?_ ?_
  rotate_left
  · rintro w' ⟨s0, s1, s2, s3⟩
    go_simp
    with_reducible rfl
  rotate_left
  · simp only [Act.put, List.setIfInBounds_toArray, List.set_cons_zero, List.set_cons_succ, i64_w, i32_w]
    rfl
  refine one_ (i := 2) (N := some 72) #[true, true, true, false, false] rfl rfl (by kernel_rfl) (by decide) (fun K hK => ?_)
  refine goes_ Try.func21 (by kernel_rfl) rfl #[.agg #[.slice A1_0 l1_0.length c1_0, .bool a1_1]] (by rfl) rfl rfl (by (try simp only [List.map_toArray, List.map_cons, List.map_nil]); first | done | rfl) ?_
  with_reducible refine (laws_toBank.calls k _ _ l1_0 a1_1 t49 t50 _ (Kd.C_below HR1_0.out HB.out) HC1_0.out A48.out).mono ?_
  rintro e W49 ⟨v51, rfl, ho51, hb⟩
  refine ⟨_, rfl, ?_⟩
  obtain ⟨B51, d51, e_⟩ := Kd.R_slice ho51
  subst e_
  obtain ⟨lo51, hi51, nn, ht_, hO51⟩ := laws_FnExactRideOver.newR ho51 HT.out (below_size HB.out) hb.size
  replace HO21 := Aside0.mk (Kd.R_below HO21.out hb)
  replace HO26 := Aside0.mk (Kd.S_below HO26.out hb)
  replace HO30 := Aside0.mk (Kd.R_below HO30.out hb)
  replace HO33 := Aside0.mk (Kd.R_below HO33.out hb)
  replace HO38 := Aside0.mk (Kd.R_below HO38.out hb)
  replace BK1 := Aside0.mk (blk_below (g := gb1) (o := .cells #[.int .i64 a0_0, .slice A0_1 l0_1.length c0_1, .int .i64 a0_2] 24 (0, 0)) BK1.out hb)
  replace BK2 := Aside0.mk (blk_below (g := gb2) (o := .cells #[.slice A1_0 l1_0.length c1_0, .bool a1_1] 35 (0, 0)) BK2.out hb)
  replace BK3 := Aside0.mk (blk_below (g := gb3) (o := .cells #[.slice B21 t18.length d21, .bool t19] 39 (0, 0)) BK3.out hb)
  replace BK4 := Aside0.mk (blk_below (g := gb4) (o := .cells #[.int .i64 t23, .slice B26 t24.length d26, .int .i64 t25] 27 (0, 0)) BK4.out hb)
  replace BK5 := Aside0.mk (blk_below (g := gb5) (o := .cells #[.slice B30 t28.length d30, .bool t29] 39 (0, 0)) BK5.out hb)
  replace BK6 := Aside0.mk (blk_below (g := gb6) (o := .cells #[.slice B38 t35.length d38, .bool t36] 39 (0, 0)) BK6.out hb)
  replace HB := Aside0.mk (below_step HB.out hb)
  replace HT := Aside0.mk (Nat.le_trans HT.out hb.size)
  have HO51 := Aside0.mk hO51
  replace HT := Aside0.mk ht_
  replace HN := Aside0.mk (And.intro nn HN.out)
  clear ho51 hO51 nn ht_
  clear hb
  refine hK.out _ _ ⟨(blk_cell BK5.out 0).trans rfl, (blk_cell BK5.out 1).trans rfl, (blk_cell BK2.out 0).trans rfl, (blk_cell BK2.out 1).trans rfl⟩ (fun hHeld => ?_)
  clear hK K
  refine norm_ (a' := ?_) ?_ ?_
  rotate_left
  · show Act.put _ (some 72) _ = _
    simp only [Act.put, List.setIfInBounds_toArray, List.set_cons_zero, List.set_cons_succ, i64_w, i32_w]
    rfl
  refine one_ (i := 3) (N := some 73) #[true, true, true, true, false] rfl rfl (by kernel_rfl) (by decide) (fun K hK => ?_)
  refine goes_ Try.func23 (by kernel_rfl) rfl #[.agg #[.slice B30 t28.length d30, .bool t29], .agg #[.slice B51 t49.length d51, .bool t50]] (by rfl) rfl rfl (by (try simp only [List.map_toArray, List.map_cons, List.map_nil]); first | done | rfl) ?_
  with_reducible refine (laws_eqBank.calls k _ _ t28 t29 _ _ t49 t50 true _ (Kd.R_reads' HO30.out).2.2 (Kd.R_reads' HO30.out).2.1 (Kd.R_reads' HO51.out).2.2 (Kd.R_reads' HO51.out).2.1 A52.out).mono ?_
  rintro e W50 ⟨rfl, hb⟩
  refine ⟨_, rfl, ?_⟩
  replace HO21 := Aside0.mk (Kd.R_below HO21.out hb)
  replace HO26 := Aside0.mk (Kd.S_below HO26.out hb)
  replace HO30 := Aside0.mk (Kd.R_below HO30.out hb)
  replace HO33 := Aside0.mk (Kd.R_below HO33.out hb)
  replace HO38 := Aside0.mk (Kd.R_below HO38.out hb)
  replace HO51 := Aside0.mk (Kd.R_below HO51.out hb)
  replace BK1 := Aside0.mk (blk_below (g := gb1) (o := .cells #[.int .i64 a0_0, .slice A0_1 l0_1.length c0_1, .int .i64 a0_2] 24 (0, 0)) BK1.out hb)
  replace BK2 := Aside0.mk (blk_below (g := gb2) (o := .cells #[.slice A1_0 l1_0.length c1_0, .bool a1_1] 35 (0, 0)) BK2.out hb)
  replace BK3 := Aside0.mk (blk_below (g := gb3) (o := .cells #[.slice B21 t18.length d21, .bool t19] 39 (0, 0)) BK3.out hb)
  replace BK4 := Aside0.mk (blk_below (g := gb4) (o := .cells #[.int .i64 t23, .slice B26 t24.length d26, .int .i64 t25] 27 (0, 0)) BK4.out hb)
  replace BK5 := Aside0.mk (blk_below (g := gb5) (o := .cells #[.slice B30 t28.length d30, .bool t29] 39 (0, 0)) BK5.out hb)
  replace BK6 := Aside0.mk (blk_below (g := gb6) (o := .cells #[.slice B38 t35.length d38, .bool t36] 39 (0, 0)) BK6.out hb)
  replace HB := Aside0.mk (below_step HB.out hb)
  replace HT := Aside0.mk (Nat.le_trans HT.out hb.size)
  clear hb
  clear HO51
  refine hK.out _ _ ⟨(blk_cell BK5.out 0).trans rfl, (blk_cell BK5.out 1).trans rfl, (blk_cell BK2.out 0).trans rfl, (blk_cell BK2.out 1).trans rfl⟩ (fun hHeld => ?_)
  clear hK K
  refine norm_ (a' := ?_) ?_ ?_
  rotate_left
  · show Act.put _ (some 73) _ = _
    simp only [Act.put, List.setIfInBounds_toArray, List.set_cons_zero, List.set_cons_succ, i64_w, i32_w]
    rfl
  refine pure_ (i := 4) (N := some 74) (v := ?_) (a' := ?_) #[true, true, true, true, true] rfl rfl (by kernel_rfl) (fun _ _ _ h => h) (Or.inl ⟨by rfl, ?_⟩) ?_ ?_
  rotate_left
  · intro w'
    go_simp
    with_reducible rfl
  rotate_left
  · simp only [Act.put, List.setIfInBounds_toArray, List.set_cons_zero, List.set_cons_succ, i64_w, i32_w]
    rfl
  refine done_ (by kernel_rfl) ?_
  try go_wp2_with (first | ((with_reducible refine gate_dst (N := 77) rfl ?_); refine goesL_ (some 77) rfl rfl Try.func37 (by kernel_rfl) rfl #[.slice A2 l2.length c2] rfl (by (try simp only [List.map_toArray, List.map_cons, List.map_nil]); first | done | rfl) ?_; (with_reducible refine (laws_toIntS.calls k _ _ l2 t55 _ (Kd.C_below HR2.out HB.out) HC2.out A54.out).mono ?_); rintro e W51 ⟨v56, rfl, ho56, hb⟩; refine ⟨_, rfl, ?_⟩; obtain ⟨B56, d56, e_⟩ := Kd.R_slice ho56; subst e_; obtain ⟨lo56, hi56, nn, ht_, hO56⟩ := laws_FnExactRideOver.newR ho56 HT.out (below_size HB.out) hb.size; replace HO21 := Aside0.mk (Kd.R_below HO21.out hb); replace HO26 := Aside0.mk (Kd.S_below HO26.out hb); replace HO30 := Aside0.mk (Kd.R_below HO30.out hb); replace HO33 := Aside0.mk (Kd.R_below HO33.out hb); replace HO38 := Aside0.mk (Kd.R_below HO38.out hb); replace BK1 := Aside0.mk (blk_below (g := gb1) (o := .cells #[.int .i64 a0_0, .slice A0_1 l0_1.length c0_1, .int .i64 a0_2] 24 (0, 0)) BK1.out hb); replace BK2 := Aside0.mk (blk_below (g := gb2) (o := .cells #[.slice A1_0 l1_0.length c1_0, .bool a1_1] 35 (0, 0)) BK2.out hb); replace BK3 := Aside0.mk (blk_below (g := gb3) (o := .cells #[.slice B21 t18.length d21, .bool t19] 39 (0, 0)) BK3.out hb); replace BK4 := Aside0.mk (blk_below (g := gb4) (o := .cells #[.int .i64 t23, .slice B26 t24.length d26, .int .i64 t25] 27 (0, 0)) BK4.out hb); replace BK5 := Aside0.mk (blk_below (g := gb5) (o := .cells #[.slice B30 t28.length d30, .bool t29] 39 (0, 0)) BK5.out hb); replace BK6 := Aside0.mk (blk_below (g := gb6) (o := .cells #[.slice B38 t35.length d38, .bool t36] 39 (0, 0)) BK6.out hb); replace HB := Aside0.mk (below_step HB.out hb); replace HT := Aside0.mk (Nat.le_trans HT.out hb.size); have HO56 := Aside0.mk hO56; replace HT := Aside0.mk ht_; replace HN := Aside0.mk (And.intro nn HN.out); clear ho56 hO56 nn ht_; clear hb) | ((with_reducible refine gate_dst (N := 78) rfl ?_); refine goesL_ (some 78) rfl rfl Try.func39 (by kernel_rfl) rfl #[.slice B33 t32.length d33, .slice B56 t55.length d56] rfl (by (try simp only [List.map_toArray, List.map_cons, List.map_nil]); first | done | rfl) ?_; (with_reducible refine (laws_eqIntS.calls k _ _ t32 _ _ t55 true _ (Kd.R_reads' HO33.out).2.2 (Kd.R_reads' HO33.out).2.1 (Kd.R_reads' HO56.out).2.2 (Kd.R_reads' HO56.out).2.1 A57.out).mono ?_); rintro e W52 ⟨rfl, hd⟩; have hb := hd.below; clear hd; refine ⟨_, rfl, ?_⟩; replace HO21 := Aside0.mk (Kd.R_below HO21.out hb); replace HO26 := Aside0.mk (Kd.S_below HO26.out hb); replace HO30 := Aside0.mk (Kd.R_below HO30.out hb); replace HO33 := Aside0.mk (Kd.R_below HO33.out hb); replace HO38 := Aside0.mk (Kd.R_below HO38.out hb); replace HO56 := Aside0.mk (Kd.R_below HO56.out hb); replace BK1 := Aside0.mk (blk_below (g := gb1) (o := .cells #[.int .i64 a0_0, .slice A0_1 l0_1.length c0_1, .int .i64 a0_2] 24 (0, 0)) BK1.out hb); replace BK2 := Aside0.mk (blk_below (g := gb2) (o := .cells #[.slice A1_0 l1_0.length c1_0, .bool a1_1] 35 (0, 0)) BK2.out hb); replace BK3 := Aside0.mk (blk_below (g := gb3) (o := .cells #[.slice B21 t18.length d21, .bool t19] 39 (0, 0)) BK3.out hb); replace BK4 := Aside0.mk (blk_below (g := gb4) (o := .cells #[.int .i64 t23, .slice B26 t24.length d26, .int .i64 t25] 27 (0, 0)) BK4.out hb); replace BK5 := Aside0.mk (blk_below (g := gb5) (o := .cells #[.slice B30 t28.length d30, .bool t29] 39 (0, 0)) BK5.out hb); replace BK6 := Aside0.mk (blk_below (g := gb6) (o := .cells #[.slice B38 t35.length d38, .bool t36] 39 (0, 0)) BK6.out hb); replace HB := Aside0.mk (below_step HB.out hb); replace HT := Aside0.mk (Nat.le_trans HT.out hb.size); clear hb; clear HO56; have cz4_0 : W52.cell? ⟨gb4, 0, none⟩ = some (.int .i64 t23) := (blk_cell BK4.out 0).trans rfl; have cz4_1 : W52.cell? ⟨gb4, 1, none⟩ = some (.slice B26 t24.length d26) := (blk_cell BK4.out 1).trans rfl; have cz4_2 : W52.cell? ⟨gb4, 2, none⟩ = some (.int .i64 t25) := (blk_cell BK4.out 2).trans rfl) | ((with_reducible refine gate_dst (N := 82) rfl ?_); refine goesL_ (some 82) rfl rfl Try.func26 (by kernel_rfl) rfl #[.agg #[.int .i64 t23, .slice B26 t24.length d26, .int .i64 t25], .int .i64 1] rfl (by (try simp only [List.map_toArray, List.map_cons, List.map_nil]); first | done | rfl) ?_; (with_reducible refine (laws_markKeep.calls k (fun k_ => lo26 ≤ k_ ∧ k_ < hi26) t23 (.slice B26 t24.length d26) t24 t25 1 t60 t61 w _ HB.out HO26.out A59.out).mono ?_); rintro e W53 ⟨rfl, hy0, hb, hkp⟩; refine ⟨_, rfl, ?_⟩; replace HO21 := Aside0.mk (laws_FnExactRideOver.keptR HO21.out hkp (by have hn_ := HN.out; omega)); replace HO30 := Aside0.mk (laws_FnExactRideOver.keptR HO30.out hkp (by have hn_ := HN.out; omega)); replace HO33 := Aside0.mk (laws_FnExactRideOver.keptR HO33.out hkp (by have hn_ := HN.out; omega)); replace HO38 := Aside0.mk (laws_FnExactRideOver.keptR HO38.out hkp (by have hn_ := HN.out; omega)); replace BK1 := Aside0.mk (laws_FnExactRideOver.keptB BK1.out hkp (by have hn_ := HN.out; omega)); replace BK2 := Aside0.mk (laws_FnExactRideOver.keptB BK2.out hkp (by have hn_ := HN.out; omega)); replace BK3 := Aside0.mk (laws_FnExactRideOver.keptB BK3.out hkp (by have hn_ := HN.out; omega)); replace BK4 := Aside0.mk (laws_FnExactRideOver.keptB BK4.out hkp (by have hn_ := HN.out; omega)); replace BK5 := Aside0.mk (laws_FnExactRideOver.keptB BK5.out hkp (by have hn_ := HN.out; omega)); replace BK6 := Aside0.mk (laws_FnExactRideOver.keptB BK6.out hkp (by have hn_ := HN.out; omega)); replace HO26 := Aside0.mk (hy0); replace HB := Aside0.mk hb; replace HT := Aside0.mk (Nat.le_trans HT.out hkp.1); clear hy0 hb hkp; have hl_ := (Kd.R_reads' (Kd.S_R HO26.out)).1; rw [hl_] at HO26 BK4; (try simp only [hl_]); clear hl_; clear HO26; (try clear cz4_0 cz4_1 cz4_2); have cz5_0 : W53.cell? ⟨gb5, 0, none⟩ = some (.slice B30 t28.length d30) := (blk_cell BK5.out 0).trans rfl; have cz5_1 : W53.cell? ⟨gb5, 1, none⟩ = some (.bool t29) := (blk_cell BK5.out 1).trans rfl) | ((with_reducible refine gate_dst (N := 85) rfl ?_); refine goesL_ (some 85) rfl rfl Try.func27 (by kernel_rfl) rfl #[.agg #[.slice B30 t28.length d30, .bool t29], .int .i64 t60] rfl (by (try simp only [List.map_toArray, List.map_cons, List.map_nil]); first | done | rfl) ?_; (with_reducible refine (laws_markBank.calls k (fun k_ => lo30 ≤ k_ ∧ k_ < hi30) (.slice B30 t28.length d30) t28 t29 t60 t63 t64 w _ HB.out HO30.out A62.out).mono ?_); rintro e W54 ⟨rfl, hy0, hb, hkp⟩; refine ⟨_, rfl, ?_⟩; replace HO21 := Aside0.mk (laws_FnExactRideOver.keptR HO21.out hkp (by have hn_ := HN.out; omega)); replace HO33 := Aside0.mk (laws_FnExactRideOver.keptR HO33.out hkp (by have hn_ := HN.out; omega)); replace HO38 := Aside0.mk (laws_FnExactRideOver.keptR HO38.out hkp (by have hn_ := HN.out; omega)); replace BK1 := Aside0.mk (laws_FnExactRideOver.keptB BK1.out hkp (by have hn_ := HN.out; omega)); replace BK2 := Aside0.mk (laws_FnExactRideOver.keptB BK2.out hkp (by have hn_ := HN.out; omega)); replace BK3 := Aside0.mk (laws_FnExactRideOver.keptB BK3.out hkp (by have hn_ := HN.out; omega)); replace BK4 := Aside0.mk (laws_FnExactRideOver.keptB BK4.out hkp (by have hn_ := HN.out; omega)); replace BK5 := Aside0.mk (laws_FnExactRideOver.keptB BK5.out hkp (by have hn_ := HN.out; omega)); replace BK6 := Aside0.mk (laws_FnExactRideOver.keptB BK6.out hkp (by have hn_ := HN.out; omega)); replace HO30 := Aside0.mk (Kd.R_reok rfl hy0 (fun k_ e_ => HO30.out.1 k_ e_)); replace HB := Aside0.mk hb; replace HT := Aside0.mk (Nat.le_trans HT.out hkp.1); clear hy0 hb hkp; have hl_ := (Kd.R_reads' HO30.out).1; rw [hl_] at HO30 BK5; (try simp only [hl_]); clear hl_; clear HO30; (try clear cz5_0 cz5_1)) | ((with_reducible refine gate_dst (N := 88) rfl ?_); refine goesL_ (some 88) rfl rfl Try.func40 (by kernel_rfl) rfl #[.slice B33 t32.length d33, .int .i64 t63] rfl (by (try simp only [List.map_toArray, List.map_cons, List.map_nil]); first | done | rfl) ?_; (with_reducible refine (laws_markIntS.calls k (fun k_ => lo33 ≤ k_ ∧ k_ < hi33) (.slice B33 t32.length d33) t32 t63 t66 t67 w _ HB.out HO33.out A65.out).mono ?_); rintro e W55 ⟨rfl, hy0, hb, hkp⟩; refine ⟨_, rfl, ?_⟩; replace HO21 := Aside0.mk (laws_FnExactRideOver.keptR HO21.out hkp (by have hn_ := HN.out; omega)); replace HO38 := Aside0.mk (laws_FnExactRideOver.keptR HO38.out hkp (by have hn_ := HN.out; omega)); replace BK1 := Aside0.mk (laws_FnExactRideOver.keptB BK1.out hkp (by have hn_ := HN.out; omega)); replace BK2 := Aside0.mk (laws_FnExactRideOver.keptB BK2.out hkp (by have hn_ := HN.out; omega)); replace BK3 := Aside0.mk (laws_FnExactRideOver.keptB BK3.out hkp (by have hn_ := HN.out; omega)); replace BK4 := Aside0.mk (laws_FnExactRideOver.keptB BK4.out hkp (by have hn_ := HN.out; omega)); replace BK5 := Aside0.mk (laws_FnExactRideOver.keptB BK5.out hkp (by have hn_ := HN.out; omega)); replace BK6 := Aside0.mk (laws_FnExactRideOver.keptB BK6.out hkp (by have hn_ := HN.out; omega)); replace HO33 := Aside0.mk (Kd.R_reok rfl hy0 (fun k_ e_ => HO33.out.1 k_ e_)); replace HB := Aside0.mk hb; replace HT := Aside0.mk (Nat.le_trans HT.out hkp.1); clear hy0 hb hkp; have hl_ := (Kd.R_reads' HO33.out).1; rw [hl_] at HO33; (try simp only [hl_]); clear hl_; clear HO33; have cz6_0 : W55.cell? ⟨gb6, 0, none⟩ = some (.slice B38 t35.length d38) := (blk_cell BK6.out 0).trans rfl; have cz6_1 : W55.cell? ⟨gb6, 1, none⟩ = some (.bool t36) := (blk_cell BK6.out 1).trans rfl; have cz3_0 : W55.cell? ⟨gb3, 0, none⟩ = some (.slice B21 t18.length d21) := (blk_cell BK3.out 0).trans rfl; have cz3_1 : W55.cell? ⟨gb3, 1, none⟩ = some (.bool t19) := (blk_cell BK3.out 1).trans rfl) | ((with_reducible refine gate_dst (N := 94) rfl ?_); (refine gate_guard (by rfl) ?_; dsimp only); refine goesL_ (some 94) rfl rfl Try.func23 (by kernel_rfl) rfl #[.agg #[.slice B38 t35.length d38, .bool t36], .agg #[.slice B21 t18.length d21, .bool t19]] rfl (by (try simp only [List.map_toArray, List.map_cons, List.map_nil]); first | done | rfl) ?_; (with_reducible refine (laws_eqBank.calls k _ _ t35 t36 _ _ t18 t19 true _ (Kd.R_reads' HO38.out).2.2 (Kd.R_reads' HO38.out).2.1 (Kd.R_reads' HO21.out).2.2 (Kd.R_reads' HO21.out).2.1 A68.out).mono ?_); rintro e W56 ⟨rfl, hb⟩; refine ⟨_, rfl, ?_⟩; replace HO21 := Aside0.mk (Kd.R_below HO21.out hb); replace HO38 := Aside0.mk (Kd.R_below HO38.out hb); replace BK1 := Aside0.mk (blk_below (g := gb1) (o := .cells #[.int .i64 a0_0, .slice A0_1 l0_1.length c0_1, .int .i64 a0_2] 24 (0, 0)) BK1.out hb); replace BK2 := Aside0.mk (blk_below (g := gb2) (o := .cells #[.slice A1_0 l1_0.length c1_0, .bool a1_1] 35 (0, 0)) BK2.out hb); replace BK3 := Aside0.mk (blk_below (g := gb3) (o := .cells #[.slice B21 t18.length d21, .bool t19] 39 (0, 0)) BK3.out hb); replace BK4 := Aside0.mk (blk_below (g := gb4) (o := .cells #[.int .i64 t23, .slice B26 t61.length d26, .int .i64 t25] 27 (0, 0)) BK4.out hb); replace BK5 := Aside0.mk (blk_below (g := gb5) (o := .cells #[.slice B30 t64.length d30, .bool t29] 39 (0, 0)) BK5.out hb); replace BK6 := Aside0.mk (blk_below (g := gb6) (o := .cells #[.slice B38 t35.length d38, .bool t36] 39 (0, 0)) BK6.out hb); replace HB := Aside0.mk (below_step HB.out hb); replace HT := Aside0.mk (Nat.le_trans HT.out hb.size); clear hb; (try clear cz6_0 cz6_1 cz3_0 cz3_1); have cz6_0 : W56.cell? ⟨gb6, 0, none⟩ = some (.slice B38 t35.length d38) := (blk_cell BK6.out 0).trans rfl; have cz6_1 : W56.cell? ⟨gb6, 1, none⟩ = some (.bool t36) := (blk_cell BK6.out 1).trans rfl) | ((with_reducible refine gate_dst (N := 104) rfl ?_); refine goesL_ (some 104) rfl rfl Try.func27 (by kernel_rfl) rfl #[.agg #[.slice B38 t35.length d38, .bool t36], .int .i64 1] rfl (by (try simp only [List.map_toArray, List.map_cons, List.map_nil]); first | done | rfl) ?_; (with_reducible refine (laws_markBank.calls k (fun k_ => lo38 ≤ k_ ∧ k_ < hi38) (.slice B38 t35.length d38) t35 t36 1 t71 t72 w _ HB.out HO38.out A70.out).mono ?_); rintro e W57 ⟨rfl, hy0, hb, hkp⟩; refine ⟨_, rfl, ?_⟩; replace HO21 := Aside0.mk (laws_FnExactRideOver.keptR HO21.out hkp (by have hn_ := HN.out; omega)); replace BK1 := Aside0.mk (laws_FnExactRideOver.keptB BK1.out hkp (by have hn_ := HN.out; omega)); replace BK2 := Aside0.mk (laws_FnExactRideOver.keptB BK2.out hkp (by have hn_ := HN.out; omega)); replace BK3 := Aside0.mk (laws_FnExactRideOver.keptB BK3.out hkp (by have hn_ := HN.out; omega)); replace BK4 := Aside0.mk (laws_FnExactRideOver.keptB BK4.out hkp (by have hn_ := HN.out; omega)); replace BK5 := Aside0.mk (laws_FnExactRideOver.keptB BK5.out hkp (by have hn_ := HN.out; omega)); replace BK6 := Aside0.mk (laws_FnExactRideOver.keptB BK6.out hkp (by have hn_ := HN.out; omega)); replace HO38 := Aside0.mk (Kd.R_reok rfl hy0 (fun k_ e_ => HO38.out.1 k_ e_)); replace HB := Aside0.mk hb; replace HT := Aside0.mk (Nat.le_trans HT.out hkp.1); clear hy0 hb hkp; have hl_ := (Kd.R_reads' HO38.out).1; rw [hl_] at HO38 BK6; (try simp only [hl_]); clear hl_; (try clear cz6_0 cz6_1); have cz6_0 : W57.cell? ⟨gb6, 0, none⟩ = some (.slice B38 t72.length d38) := (blk_cell BK6.out 0).trans rfl; have cz6_1 : W57.cell? ⟨gb6, 1, none⟩ = some (.bool t36) := (blk_cell BK6.out 1).trans rfl) | ((with_reducible refine gate_dst (N := 107) rfl ?_); refine goesL_ (some 107) rfl rfl Try.func28 (by kernel_rfl) rfl #[.agg #[.slice B38 t72.length d38, .bool t36], .int .i64 1] rfl (by (try simp only [List.map_toArray, List.map_cons, List.map_nil]); first | done | rfl) ?_; (with_reducible refine (laws_heldBank.calls k _ _ t72 t36 1 t74 _ (Kd.R_reads' HO38.out).2.2 (Kd.R_reads' HO38.out).2.1 A73.out).mono ?_); rintro e W58 ⟨rfl, hb⟩; refine ⟨_, rfl, ?_⟩; replace HO21 := Aside0.mk (Kd.R_below HO21.out hb); replace HO38 := Aside0.mk (Kd.R_below HO38.out hb); replace BK1 := Aside0.mk (blk_below (g := gb1) (o := .cells #[.int .i64 a0_0, .slice A0_1 l0_1.length c0_1, .int .i64 a0_2] 24 (0, 0)) BK1.out hb); replace BK2 := Aside0.mk (blk_below (g := gb2) (o := .cells #[.slice A1_0 l1_0.length c1_0, .bool a1_1] 35 (0, 0)) BK2.out hb); replace BK3 := Aside0.mk (blk_below (g := gb3) (o := .cells #[.slice B21 t18.length d21, .bool t19] 39 (0, 0)) BK3.out hb); replace BK4 := Aside0.mk (blk_below (g := gb4) (o := .cells #[.int .i64 t23, .slice B26 t61.length d26, .int .i64 t25] 27 (0, 0)) BK4.out hb); replace BK5 := Aside0.mk (blk_below (g := gb5) (o := .cells #[.slice B30 t64.length d30, .bool t29] 39 (0, 0)) BK5.out hb); replace BK6 := Aside0.mk (blk_below (g := gb6) (o := .cells #[.slice B38 t72.length d38, .bool t36] 39 (0, 0)) BK6.out hb); replace HB := Aside0.mk (below_step HB.out hb); replace HT := Aside0.mk (Nat.le_trans HT.out hb.size); clear hb; (try clear cz6_0 cz6_1)))
  have hb : Below W58.heap.size W58 W58.drew := below_drew (Below.refl _ _)
  replace HO21 := Aside0.mk (Kd.R_below HO21.out hb)
  replace HO38 := Aside0.mk (Kd.R_below HO38.out hb)
  replace BK1 := Aside0.mk (blk_below (g := gb1) (o := .cells #[.int .i64 a0_0, .slice A0_1 l0_1.length c0_1, .int .i64 a0_2] 24 (0, 0)) BK1.out hb)
  replace BK2 := Aside0.mk (blk_below (g := gb2) (o := .cells #[.slice A1_0 l1_0.length c1_0, .bool a1_1] 35 (0, 0)) BK2.out hb)
  replace BK3 := Aside0.mk (blk_below (g := gb3) (o := .cells #[.slice B21 t18.length d21, .bool t19] 39 (0, 0)) BK3.out hb)
  replace BK4 := Aside0.mk (blk_below (g := gb4) (o := .cells #[.int .i64 t23, .slice B26 t61.length d26, .int .i64 t25] 27 (0, 0)) BK4.out hb)
  replace BK5 := Aside0.mk (blk_below (g := gb5) (o := .cells #[.slice B30 t64.length d30, .bool t29] 39 (0, 0)) BK5.out hb)
  replace BK6 := Aside0.mk (blk_below (g := gb6) (o := .cells #[.slice B38 t72.length d38, .bool t36] 39 (0, 0)) BK6.out hb)
  replace HB := Aside0.mk (below_step HB.out hb)
  replace HT := Aside0.mk (Nat.le_trans HT.out hb.size)
  clear hb
  refine start_ (n := 13) (S := fun w' => w'.cell? ⟨gb1, 0, none⟩ = some (.int .i64 a0_0) ∧ w'.cell? ⟨gb1, 1, none⟩ = some (.slice A0_1 l0_1.length c0_1) ∧ w'.cell? ⟨gb1, 2, none⟩ = some (.int .i64 a0_2) ∧ w'.cell? ⟨gb2, 0, none⟩ = some (.slice A1_0 l1_0.length c1_0) ∧ w'.cell? ⟨gb2, 1, none⟩ = some (.bool a1_1)) (ds := []) #[false, false, false, false, false, false, false, false, false, false, false, false, false] (by kernel_rfl) rfl rfl ⟨(blk_cell BK1.out 0).trans rfl, (blk_cell BK1.out 1).trans rfl, (blk_cell BK1.out 2).trans rfl, (blk_cell BK2.out 0).trans rfl, (blk_cell BK2.out 1).trans rfl⟩ (fun hHeld => ?_)
  generalize W58.drew = W59 at HO21 HO38 BK1 BK2 BK3 BK4 BK5 BK6 HB HT hHeld ⊢
  refine take_ (i := 0) (N := some 114) (v := ?_) (a' := ?_) #[true, false, false, false, false, false, false, false, false, false, false, false, false] rfl rfl (by kernel_rfl) (fun _ _ _ h => h) (Or.inl ⟨by rfl, ?_⟩) hHeld ?_ ?_
  rotate_left
  · rintro w' ⟨s0, s1, s2, s3, s4⟩
    go_simp
    with_reducible rfl
  rotate_left
  · simp only [Act.put, List.setIfInBounds_toArray, List.set_cons_zero, List.set_cons_succ, i64_w, i32_w]
    rfl
  refine take_ (i := 2) (N := some 116) (v := ?_) (a' := ?_) #[true, false, true, false, false, false, false, false, false, false, false, false, false] rfl rfl (by kernel_rfl) (fun _ _ _ h => h) (Or.inl ⟨by rfl, ?_⟩) hHeld ?_ ?_
  rotate_left
  · rintro w' ⟨s0, s1, s2, s3, s4⟩
    go_simp
    with_reducible rfl
  rotate_left
  · simp only [Act.put, List.setIfInBounds_toArray, List.set_cons_zero, List.set_cons_succ, i64_w, i32_w]
    rfl
  refine pure_ (i := 4) (N := some 118) (v := ?_) (a' := ?_) #[true, false, true, false, true, false, false, false, false, false, false, false, false] rfl rfl (by kernel_rfl) (fun _ _ _ h => h) (Or.inl ⟨by rfl, ?_⟩) ?_ ?_
  rotate_left
  · intro w'
    go_simp
    with_reducible rfl
  rotate_left
  · simp only [Act.put, List.setIfInBounds_toArray, List.set_cons_zero, List.set_cons_succ, i64_w, i32_w]
    rfl
  refine join_ (σ := Option Addr × Nat × Option Addr × Nat × Option Addr × Nat × Option Addr × Nat × Nat) 2 #[true, true, true, true, true, true, true, true, true, true, true, false, false] (fun s => [(115, .agg #[.int .i64 t76, .slice s.1 t77.length s.2.1, .int .i64 t78]), (117, .agg #[.slice s.2.2.1 t81.length s.2.2.2.1, .bool t82]), (119, .slice s.2.2.2.2.1 t85.length s.2.2.2.2.2.1), (120, .tuple #[.agg #[.slice s.2.2.2.2.2.2.1 t88.length s.2.2.2.2.2.2.2.1, .bool t89], .bool t90]), (113, .tuple #[.agg #[.slice s.2.2.2.2.2.2.1 t88.length s.2.2.2.2.2.2.2.1, .bool t89], .bool t90]), (121, .agg #[.slice s.2.2.2.2.2.2.1 t88.length s.2.2.2.2.2.2.2.1, .bool t89]), (122, .bool t90), (18, .pointer (some ⟨s.2.2.2.2.2.2.2.2, 0, none⟩))]) (fun s w' => ∃ lo91 hi91 T_ : Nat, Aside0 (Kd.R Kd.bool 4 w' w.heap.size (fun k_ => lo21 ≤ k_ ∧ k_ < hi21) (.slice B21 t18.length d21) t18) ∧ Aside0 (Kd.R Kd.bool 4 w' w.heap.size (fun k_ => lo38 ≤ k_ ∧ k_ < hi38) (.slice B38 t72.length d38) t72) ∧ Aside0 (Kd.R Kd.bool 4 w' w.heap.size (fun k_ => lo91 ≤ k_ ∧ k_ < hi91) (.slice s.2.2.2.2.2.2.1 t88.length s.2.2.2.2.2.2.2.1) t88) ∧ Aside0 (w'.heap[gb1]? = some (.cells #[.int .i64 a0_0, .slice A0_1 l0_1.length c0_1, .int .i64 a0_2] 24 (0, 0))) ∧ Aside0 (w'.heap[gb2]? = some (.cells #[.slice A1_0 l1_0.length c1_0, .bool a1_1] 35 (0, 0))) ∧ Aside0 (w'.heap[gb3]? = some (.cells #[.slice B21 t18.length d21, .bool t19] 39 (0, 0))) ∧ Aside0 (w'.heap[gb4]? = some (.cells #[.int .i64 t23, .slice B26 t61.length d26, .int .i64 t25] 27 (0, 0))) ∧ Aside0 (w'.heap[gb5]? = some (.cells #[.slice B30 t64.length d30, .bool t29] 39 (0, 0))) ∧ Aside0 (w'.heap[gb6]? = some (.cells #[.slice B38 t72.length d38, .bool t36] 39 (0, 0))) ∧ Aside0 (w'.heap[s.2.2.2.2.2.2.2.2]? = some (.cells #[.slice none 0 0, .bool false] 39 (0, 0))) ∧ Aside0 (Below w.heap.size w w') ∧ Aside0 (T_ ≤ w'.heap.size) ∧ Aside0 (w.heap.size ≤ s.2.2.2.2.2.2.2.2) ∧ Aside0 (hi56 ≤ s.2.2.2.2.2.2.2.2 ∧ s.2.2.2.2.2.2.2.2 < T_ ∧ hi56 ≤ lo91 ∧ lo91 ≤ hi91 ∧ hi91 ≤ T_ ∧ (s.2.2.2.2.2.2.2.2 < lo91 ∨ hi91 ≤ s.2.2.2.2.2.2.2.2))) ?_ ?_
  rotate_left
  · intro hJ4
    refine join_ (σ := Option Addr × Nat × Option Addr × Nat × Option Addr × Nat × Nat) 6 #[true, true, true, true, true, true, false, false, false, false, true, false, false] (fun s => [(115, .agg #[.int .i64 t76, .slice s.1 t77.length s.2.1, .int .i64 t78]), (117, .agg #[.slice s.2.2.1 t81.length s.2.2.2.1, .bool t82]), (119, .slice s.2.2.2.2.1 t85.length s.2.2.2.2.2.1), (18, .pointer (some ⟨s.2.2.2.2.2.2, 0, none⟩))]) (fun s w' => ∃ lo79 hi79 lo83 hi83 lo86 hi86 T_ : Nat, Aside0 (Kd.R Kd.bool 4 w' w.heap.size (fun k_ => lo21 ≤ k_ ∧ k_ < hi21) (.slice B21 t18.length d21) t18) ∧ Aside0 (Kd.R Kd.bool 4 w' w.heap.size (fun k_ => lo38 ≤ k_ ∧ k_ < hi38) (.slice B38 t72.length d38) t72) ∧ Aside0 (Kd.S (Kd.slice 3 (Kd.int .i64)) 51 w' w.heap.size (fun k_ => lo79 ≤ k_ ∧ k_ < hi79) (.slice s.1 t77.length s.2.1) t77) ∧ Aside0 (Kd.R Kd.bool 4 w' w.heap.size (fun k_ => lo83 ≤ k_ ∧ k_ < hi83) (.slice s.2.2.1 t81.length s.2.2.2.1) t81) ∧ Aside0 (Kd.R (Kd.int .i64) 3 w' w.heap.size (fun k_ => lo86 ≤ k_ ∧ k_ < hi86) (.slice s.2.2.2.2.1 t85.length s.2.2.2.2.2.1) t85) ∧ Aside0 (w'.heap[gb1]? = some (.cells #[.int .i64 a0_0, .slice A0_1 l0_1.length c0_1, .int .i64 a0_2] 24 (0, 0))) ∧ Aside0 (w'.heap[gb2]? = some (.cells #[.slice A1_0 l1_0.length c1_0, .bool a1_1] 35 (0, 0))) ∧ Aside0 (w'.heap[gb3]? = some (.cells #[.slice B21 t18.length d21, .bool t19] 39 (0, 0))) ∧ Aside0 (w'.heap[gb4]? = some (.cells #[.int .i64 t23, .slice B26 t61.length d26, .int .i64 t25] 27 (0, 0))) ∧ Aside0 (w'.heap[gb5]? = some (.cells #[.slice B30 t64.length d30, .bool t29] 39 (0, 0))) ∧ Aside0 (w'.heap[gb6]? = some (.cells #[.slice B38 t72.length d38, .bool t36] 39 (0, 0))) ∧ Aside0 (w'.heap[s.2.2.2.2.2.2]? = some (.cells #[.slice none 0 0, .bool false] 39 (0, 0))) ∧ Aside0 (Below w.heap.size w w') ∧ Aside0 (T_ ≤ w'.heap.size) ∧ Aside0 (w.heap.size ≤ s.2.2.2.2.2.2) ∧ Aside0 (hi56 ≤ s.2.2.2.2.2.2 ∧ s.2.2.2.2.2.2 < T_ ∧ hi56 ≤ lo79 ∧ lo79 ≤ hi79 ∧ hi79 ≤ T_ ∧ (s.2.2.2.2.2.2 < lo79 ∨ hi79 ≤ s.2.2.2.2.2.2) ∧ hi56 ≤ lo83 ∧ lo83 ≤ hi83 ∧ hi83 ≤ T_ ∧ (s.2.2.2.2.2.2 < lo83 ∨ hi83 ≤ s.2.2.2.2.2.2) ∧ hi56 ≤ lo86 ∧ lo86 ≤ hi86 ∧ hi86 ≤ T_ ∧ (s.2.2.2.2.2.2 < lo86 ∨ hi86 ≤ s.2.2.2.2.2.2) ∧ hi79 ≤ lo83 ∧ hi79 ≤ lo86 ∧ hi83 ≤ lo86)) ?_ ?_
    rotate_left
    · intro hJ3
      refine join_ (σ := Option Addr × Nat × Option Addr × Nat × Nat) 7 #[true, true, true, true, true, false, false, false, false, false, true, false, false] (fun s => [(115, .agg #[.int .i64 t76, .slice s.1 t77.length s.2.1, .int .i64 t78]), (117, .agg #[.slice s.2.2.1 t81.length s.2.2.2.1, .bool t82]), (18, .pointer (some ⟨s.2.2.2.2, 0, none⟩))]) (fun s w' => ∃ lo79 hi79 lo83 hi83 T_ : Nat, Aside0 (Kd.R Kd.bool 4 w' w.heap.size (fun k_ => lo21 ≤ k_ ∧ k_ < hi21) (.slice B21 t18.length d21) t18) ∧ Aside0 (Kd.R Kd.bool 4 w' w.heap.size (fun k_ => lo38 ≤ k_ ∧ k_ < hi38) (.slice B38 t72.length d38) t72) ∧ Aside0 (Kd.S (Kd.slice 3 (Kd.int .i64)) 51 w' w.heap.size (fun k_ => lo79 ≤ k_ ∧ k_ < hi79) (.slice s.1 t77.length s.2.1) t77) ∧ Aside0 (Kd.R Kd.bool 4 w' w.heap.size (fun k_ => lo83 ≤ k_ ∧ k_ < hi83) (.slice s.2.2.1 t81.length s.2.2.2.1) t81) ∧ Aside0 (w'.heap[gb1]? = some (.cells #[.int .i64 a0_0, .slice A0_1 l0_1.length c0_1, .int .i64 a0_2] 24 (0, 0))) ∧ Aside0 (w'.heap[gb2]? = some (.cells #[.slice A1_0 l1_0.length c1_0, .bool a1_1] 35 (0, 0))) ∧ Aside0 (w'.heap[gb3]? = some (.cells #[.slice B21 t18.length d21, .bool t19] 39 (0, 0))) ∧ Aside0 (w'.heap[gb4]? = some (.cells #[.int .i64 t23, .slice B26 t61.length d26, .int .i64 t25] 27 (0, 0))) ∧ Aside0 (w'.heap[gb5]? = some (.cells #[.slice B30 t64.length d30, .bool t29] 39 (0, 0))) ∧ Aside0 (w'.heap[gb6]? = some (.cells #[.slice B38 t72.length d38, .bool t36] 39 (0, 0))) ∧ Aside0 (w'.heap[s.2.2.2.2]? = some (.cells #[.slice none 0 0, .bool false] 39 (0, 0))) ∧ Aside0 (Below w.heap.size w w') ∧ Aside0 (T_ ≤ w'.heap.size) ∧ Aside0 (w.heap.size ≤ s.2.2.2.2) ∧ Aside0 (hi56 ≤ s.2.2.2.2 ∧ s.2.2.2.2 < T_ ∧ hi56 ≤ lo79 ∧ lo79 ≤ hi79 ∧ hi79 ≤ T_ ∧ (s.2.2.2.2 < lo79 ∨ hi79 ≤ s.2.2.2.2) ∧ hi56 ≤ lo83 ∧ lo83 ≤ hi83 ∧ hi83 ≤ T_ ∧ (s.2.2.2.2 < lo83 ∨ hi83 ≤ s.2.2.2.2) ∧ hi79 ≤ lo83)) ?_ ?_
      rotate_left
      · intro hJ2
        refine join_ (σ := Option Addr × Nat × Nat) 8 #[true, true, true, false, true, false, false, false, false, false, true, false, false] (fun s => [(115, .agg #[.int .i64 t76, .slice s.1 t77.length s.2.1, .int .i64 t78]), (18, .pointer (some ⟨s.2.2, 0, none⟩))]) (fun s w' => ∃ lo79 hi79 T_ : Nat, Aside0 (Kd.R Kd.bool 4 w' w.heap.size (fun k_ => lo21 ≤ k_ ∧ k_ < hi21) (.slice B21 t18.length d21) t18) ∧ Aside0 (Kd.R Kd.bool 4 w' w.heap.size (fun k_ => lo38 ≤ k_ ∧ k_ < hi38) (.slice B38 t72.length d38) t72) ∧ Aside0 (Kd.S (Kd.slice 3 (Kd.int .i64)) 51 w' w.heap.size (fun k_ => lo79 ≤ k_ ∧ k_ < hi79) (.slice s.1 t77.length s.2.1) t77) ∧ Aside0 (w'.heap[gb1]? = some (.cells #[.int .i64 a0_0, .slice A0_1 l0_1.length c0_1, .int .i64 a0_2] 24 (0, 0))) ∧ Aside0 (w'.heap[gb2]? = some (.cells #[.slice A1_0 l1_0.length c1_0, .bool a1_1] 35 (0, 0))) ∧ Aside0 (w'.heap[gb3]? = some (.cells #[.slice B21 t18.length d21, .bool t19] 39 (0, 0))) ∧ Aside0 (w'.heap[gb4]? = some (.cells #[.int .i64 t23, .slice B26 t61.length d26, .int .i64 t25] 27 (0, 0))) ∧ Aside0 (w'.heap[gb5]? = some (.cells #[.slice B30 t64.length d30, .bool t29] 39 (0, 0))) ∧ Aside0 (w'.heap[gb6]? = some (.cells #[.slice B38 t72.length d38, .bool t36] 39 (0, 0))) ∧ Aside0 (w'.heap[s.2.2]? = some (.cells #[.slice none 0 0, .bool false] 39 (0, 0))) ∧ Aside0 (Below w.heap.size w w') ∧ Aside0 (T_ ≤ w'.heap.size) ∧ Aside0 (w.heap.size ≤ s.2.2) ∧ Aside0 (hi56 ≤ s.2.2 ∧ s.2.2 < T_ ∧ hi56 ≤ lo79 ∧ lo79 ≤ hi79 ∧ hi79 ≤ T_ ∧ (s.2.2 < lo79 ∨ hi79 ≤ s.2.2))) ?_ ?_
        rotate_left
        · intro hJ1
          refine join_ (σ := Nat) 9 #[true, false, true, false, true, false, false, false, false, false, true, false, false] (fun s => [(18, .pointer (some ⟨s, 0, none⟩))]) (fun s w' => ∃ T_ : Nat, Aside0 (Kd.R Kd.bool 4 w' w.heap.size (fun k_ => lo21 ≤ k_ ∧ k_ < hi21) (.slice B21 t18.length d21) t18) ∧ Aside0 (Kd.R Kd.bool 4 w' w.heap.size (fun k_ => lo38 ≤ k_ ∧ k_ < hi38) (.slice B38 t72.length d38) t72) ∧ Aside0 (w'.heap[gb1]? = some (.cells #[.int .i64 a0_0, .slice A0_1 l0_1.length c0_1, .int .i64 a0_2] 24 (0, 0))) ∧ Aside0 (w'.heap[gb2]? = some (.cells #[.slice A1_0 l1_0.length c1_0, .bool a1_1] 35 (0, 0))) ∧ Aside0 (w'.heap[gb3]? = some (.cells #[.slice B21 t18.length d21, .bool t19] 39 (0, 0))) ∧ Aside0 (w'.heap[gb4]? = some (.cells #[.int .i64 t23, .slice B26 t61.length d26, .int .i64 t25] 27 (0, 0))) ∧ Aside0 (w'.heap[gb5]? = some (.cells #[.slice B30 t64.length d30, .bool t29] 39 (0, 0))) ∧ Aside0 (w'.heap[gb6]? = some (.cells #[.slice B38 t72.length d38, .bool t36] 39 (0, 0))) ∧ Aside0 (w'.heap[s]? = some (.cells #[.slice none 0 0, .bool false] 39 (0, 0))) ∧ Aside0 (Below w.heap.size w w') ∧ Aside0 (T_ ≤ w'.heap.size) ∧ Aside0 (w.heap.size ≤ s) ∧ Aside0 (hi56 ≤ s ∧ s < T_)) ?_ ?_
          rotate_left
          · intro hJ0
            refine two_ (i := 1) (j := 10) (Ni := some 115) (Nj := some 18) #[true, true, true, false, true, false, false, false, false, false, false, false, false] #[true, false, true, false, true, false, false, false, false, false, true, false, false] rfl rfl rfl rfl (by kernel_rfl) (by decide) (by decide) (fun K hK => ?_) (fun K hK => ?_)
            · skip
              refine goes_ Try.func14 (by kernel_rfl) rfl #[.agg #[.int .i64 a0_0, .slice A0_1 l0_1.length c0_1, .int .i64 a0_2]] (by rfl) rfl rfl (by (try simp only [List.map_toArray, List.map_cons, List.map_nil]); first | done | rfl) ?_
              with_reducible refine (laws_toKeep.calls k a0_0 _ _ l0_1 a0_2 t76 t77 t78 _ (Kd.C_below HR0_1.out HB.out) HC0_1.out A75.out).mono ?_
              rintro e W60 ⟨v79, rfl, ho79, hb⟩
              refine ⟨_, rfl, ?_⟩
              obtain ⟨B79, d79, e_⟩ := Kd.S_slice ho79
              subst e_
              obtain ⟨lo79, hi79, nn, ht_, hO79⟩ := laws_FnExactRideOver.newS ho79 HT.out (below_size HB.out) hb.size
              replace HO21 := Aside0.mk (Kd.R_below HO21.out hb)
              replace HO38 := Aside0.mk (Kd.R_below HO38.out hb)
              replace BK1 := Aside0.mk (blk_below (g := gb1) (o := .cells #[.int .i64 a0_0, .slice A0_1 l0_1.length c0_1, .int .i64 a0_2] 24 (0, 0)) BK1.out hb)
              replace BK2 := Aside0.mk (blk_below (g := gb2) (o := .cells #[.slice A1_0 l1_0.length c1_0, .bool a1_1] 35 (0, 0)) BK2.out hb)
              replace BK3 := Aside0.mk (blk_below (g := gb3) (o := .cells #[.slice B21 t18.length d21, .bool t19] 39 (0, 0)) BK3.out hb)
              replace BK4 := Aside0.mk (blk_below (g := gb4) (o := .cells #[.int .i64 t23, .slice B26 t61.length d26, .int .i64 t25] 27 (0, 0)) BK4.out hb)
              replace BK5 := Aside0.mk (blk_below (g := gb5) (o := .cells #[.slice B30 t64.length d30, .bool t29] 39 (0, 0)) BK5.out hb)
              replace BK6 := Aside0.mk (blk_below (g := gb6) (o := .cells #[.slice B38 t72.length d38, .bool t36] 39 (0, 0)) BK6.out hb)
              replace HB := Aside0.mk (below_step HB.out hb)
              replace HT := Aside0.mk (Nat.le_trans HT.out hb.size)
              have HO79 := Aside0.mk hO79
              replace HT := Aside0.mk ht_
              replace HN := Aside0.mk (And.intro nn HN.out)
              clear ho79 hO79 nn ht_
              clear hb
              refine hK.out _ _ ⟨(blk_cell BK1.out 0).trans rfl, (blk_cell BK1.out 1).trans rfl, (blk_cell BK1.out 2).trans rfl, (blk_cell BK2.out 0).trans rfl, (blk_cell BK2.out 1).trans rfl⟩ (fun hHeld => ?_)
              clear hK K
              refine norm_ (a' := ?_) ?_ ?_
              rotate_left
              · show Act.put _ (some 115) _ = _
                simp only [Act.put, List.setIfInBounds_toArray, List.set_cons_zero, List.set_cons_succ, i64_w, i32_w]
                rfl
              refine two_ (i := 3) (j := 10) (Ni := some 117) (Nj := some 18) #[true, true, true, true, true, false, false, false, false, false, false, false, false] #[true, true, true, false, true, false, false, false, false, false, true, false, false] rfl rfl rfl rfl (by kernel_rfl) (by decide) (by decide) (fun K hK => ?_) (fun K hK => ?_)
              · skip
                refine goes_ Try.func21 (by kernel_rfl) rfl #[.agg #[.slice A1_0 l1_0.length c1_0, .bool a1_1]] (by rfl) rfl rfl (by (try simp only [List.map_toArray, List.map_cons, List.map_nil]); first | done | rfl) ?_
                with_reducible refine (laws_toBank.calls k _ _ l1_0 a1_1 t81 t82 _ (Kd.C_below HR1_0.out HB.out) HC1_0.out A80.out).mono ?_
                rintro e W61 ⟨v83, rfl, ho83, hb⟩
                refine ⟨_, rfl, ?_⟩
                obtain ⟨B83, d83, e_⟩ := Kd.R_slice ho83
                subst e_
                obtain ⟨lo83, hi83, nn, ht_, hO83⟩ := laws_FnExactRideOver.newR ho83 HT.out (below_size HB.out) hb.size
                replace HO21 := Aside0.mk (Kd.R_below HO21.out hb)
                replace HO38 := Aside0.mk (Kd.R_below HO38.out hb)
                replace HO79 := Aside0.mk (Kd.S_below HO79.out hb)
                replace BK1 := Aside0.mk (blk_below (g := gb1) (o := .cells #[.int .i64 a0_0, .slice A0_1 l0_1.length c0_1, .int .i64 a0_2] 24 (0, 0)) BK1.out hb)
                replace BK2 := Aside0.mk (blk_below (g := gb2) (o := .cells #[.slice A1_0 l1_0.length c1_0, .bool a1_1] 35 (0, 0)) BK2.out hb)
                replace BK3 := Aside0.mk (blk_below (g := gb3) (o := .cells #[.slice B21 t18.length d21, .bool t19] 39 (0, 0)) BK3.out hb)
                replace BK4 := Aside0.mk (blk_below (g := gb4) (o := .cells #[.int .i64 t23, .slice B26 t61.length d26, .int .i64 t25] 27 (0, 0)) BK4.out hb)
                replace BK5 := Aside0.mk (blk_below (g := gb5) (o := .cells #[.slice B30 t64.length d30, .bool t29] 39 (0, 0)) BK5.out hb)
                replace BK6 := Aside0.mk (blk_below (g := gb6) (o := .cells #[.slice B38 t72.length d38, .bool t36] 39 (0, 0)) BK6.out hb)
                replace HB := Aside0.mk (below_step HB.out hb)
                replace HT := Aside0.mk (Nat.le_trans HT.out hb.size)
                have HO83 := Aside0.mk hO83
                replace HT := Aside0.mk ht_
                replace HN := Aside0.mk (And.intro nn HN.out)
                clear ho83 hO83 nn ht_
                clear hb
                refine hK.out _ _ ⟨(blk_cell BK1.out 0).trans rfl, (blk_cell BK1.out 1).trans rfl, (blk_cell BK1.out 2).trans rfl, (blk_cell BK2.out 0).trans rfl, (blk_cell BK2.out 1).trans rfl⟩ (fun hHeld => ?_)
                clear hK K
                refine norm_ (a' := ?_) ?_ ?_
                rotate_left
                · show Act.put _ (some 117) _ = _
                  simp only [Act.put, List.setIfInBounds_toArray, List.set_cons_zero, List.set_cons_succ, i64_w, i32_w]
                  rfl
                refine two_ (i := 5) (j := 10) (Ni := some 119) (Nj := some 18) #[true, true, true, true, true, true, false, false, false, false, false, false, false] #[true, true, true, true, true, false, false, false, false, false, true, false, false] rfl rfl rfl rfl (by kernel_rfl) (by decide) (by decide) (fun K hK => ?_) (fun K hK => ?_)
                · skip
                  refine goes_ Try.func37 (by kernel_rfl) rfl #[.slice A2 l2.length c2] (by rfl) rfl rfl (by (try simp only [List.map_toArray, List.map_cons, List.map_nil]); first | done | rfl) ?_
                  with_reducible refine (laws_toIntS.calls k _ _ l2 t85 _ (Kd.C_below HR2.out HB.out) HC2.out A84.out).mono ?_
                  rintro e W62 ⟨v86, rfl, ho86, hb⟩
                  refine ⟨_, rfl, ?_⟩
                  obtain ⟨B86, d86, e_⟩ := Kd.R_slice ho86
                  subst e_
                  obtain ⟨lo86, hi86, nn, ht_, hO86⟩ := laws_FnExactRideOver.newR ho86 HT.out (below_size HB.out) hb.size
                  replace HO21 := Aside0.mk (Kd.R_below HO21.out hb)
                  replace HO38 := Aside0.mk (Kd.R_below HO38.out hb)
                  replace HO79 := Aside0.mk (Kd.S_below HO79.out hb)
                  replace HO83 := Aside0.mk (Kd.R_below HO83.out hb)
                  replace BK1 := Aside0.mk (blk_below (g := gb1) (o := .cells #[.int .i64 a0_0, .slice A0_1 l0_1.length c0_1, .int .i64 a0_2] 24 (0, 0)) BK1.out hb)
                  replace BK2 := Aside0.mk (blk_below (g := gb2) (o := .cells #[.slice A1_0 l1_0.length c1_0, .bool a1_1] 35 (0, 0)) BK2.out hb)
                  replace BK3 := Aside0.mk (blk_below (g := gb3) (o := .cells #[.slice B21 t18.length d21, .bool t19] 39 (0, 0)) BK3.out hb)
                  replace BK4 := Aside0.mk (blk_below (g := gb4) (o := .cells #[.int .i64 t23, .slice B26 t61.length d26, .int .i64 t25] 27 (0, 0)) BK4.out hb)
                  replace BK5 := Aside0.mk (blk_below (g := gb5) (o := .cells #[.slice B30 t64.length d30, .bool t29] 39 (0, 0)) BK5.out hb)
                  replace BK6 := Aside0.mk (blk_below (g := gb6) (o := .cells #[.slice B38 t72.length d38, .bool t36] 39 (0, 0)) BK6.out hb)
                  replace HB := Aside0.mk (below_step HB.out hb)
                  replace HT := Aside0.mk (Nat.le_trans HT.out hb.size)
                  have HO86 := Aside0.mk hO86
                  replace HT := Aside0.mk ht_
                  replace HN := Aside0.mk (And.intro nn HN.out)
                  clear ho86 hO86 nn ht_
                  clear hb
                  refine hK.out _ _ ⟨(blk_cell BK1.out 0).trans rfl, (blk_cell BK1.out 1).trans rfl, (blk_cell BK1.out 2).trans rfl, (blk_cell BK2.out 0).trans rfl, (blk_cell BK2.out 1).trans rfl⟩ (fun hHeld => ?_)
                  clear hK K
                  refine norm_ (a' := ?_) ?_ ?_
                  rotate_left
                  · show Act.put _ (some 119) _ = _
                    simp only [Act.put, List.setIfInBounds_toArray, List.set_cons_zero, List.set_cons_succ, i64_w, i32_w]
                    rfl
                  refine two_ (i := 6) (j := 10) (Ni := some 120) (Nj := some 18) #[true, true, true, true, true, true, true, false, false, false, false, false, false] #[true, true, true, true, true, true, false, false, false, false, true, false, false] rfl rfl rfl rfl (by kernel_rfl) (by decide) (by decide) (fun K hK => ?_) (fun K hK => ?_)
                  · skip
                    refine goes_ Try.func38 (by kernel_rfl) rfl #[.agg #[.int .i64 t76, .slice B79 t77.length d79, .int .i64 t78], .agg #[.slice B83 t81.length d83, .bool t82], .slice B86 t85.length d86] (by rfl) rfl rfl (by (try simp only [List.map_toArray, List.map_cons, List.map_nil]); first | done | rfl) ?_
                    with_reducible refine (impl_RideOver.calls k t76 _ _ t77 t78 _ _ t81 t82 _ _ t85 t88 t89 t90 _ (Kd.R_reads' (Kd.S_R HO79.out)).2.2 (Kd.R_reads' (Kd.S_R HO79.out)).2.1 (Kd.R_reads' HO83.out).2.2 (Kd.R_reads' HO83.out).2.1 (Kd.R_reads' HO86.out).2.2 (Kd.R_reads' HO86.out).2.1 A87.out).mono ?_
                    rintro e W63 ⟨v91, rfl, ho91, hb⟩
                    refine ⟨_, rfl, ?_⟩
                    obtain ⟨B91, d91, e_⟩ := Kd.R_slice ho91
                    subst e_
                    obtain ⟨lo91, hi91, nn, ht_, hO91⟩ := laws_FnExactRideOver.newR ho91 HT.out (below_size HB.out) hb.size
                    replace HO21 := Aside0.mk (Kd.R_below HO21.out hb)
                    replace HO38 := Aside0.mk (Kd.R_below HO38.out hb)
                    replace HO79 := Aside0.mk (Kd.S_below HO79.out hb)
                    replace HO83 := Aside0.mk (Kd.R_below HO83.out hb)
                    replace HO86 := Aside0.mk (Kd.R_below HO86.out hb)
                    replace BK1 := Aside0.mk (blk_below (g := gb1) (o := .cells #[.int .i64 a0_0, .slice A0_1 l0_1.length c0_1, .int .i64 a0_2] 24 (0, 0)) BK1.out hb)
                    replace BK2 := Aside0.mk (blk_below (g := gb2) (o := .cells #[.slice A1_0 l1_0.length c1_0, .bool a1_1] 35 (0, 0)) BK2.out hb)
                    replace BK3 := Aside0.mk (blk_below (g := gb3) (o := .cells #[.slice B21 t18.length d21, .bool t19] 39 (0, 0)) BK3.out hb)
                    replace BK4 := Aside0.mk (blk_below (g := gb4) (o := .cells #[.int .i64 t23, .slice B26 t61.length d26, .int .i64 t25] 27 (0, 0)) BK4.out hb)
                    replace BK5 := Aside0.mk (blk_below (g := gb5) (o := .cells #[.slice B30 t64.length d30, .bool t29] 39 (0, 0)) BK5.out hb)
                    replace BK6 := Aside0.mk (blk_below (g := gb6) (o := .cells #[.slice B38 t72.length d38, .bool t36] 39 (0, 0)) BK6.out hb)
                    replace HB := Aside0.mk (below_step HB.out hb)
                    replace HT := Aside0.mk (Nat.le_trans HT.out hb.size)
                    have HO91 := Aside0.mk hO91
                    replace HT := Aside0.mk ht_
                    replace HN := Aside0.mk (And.intro nn HN.out)
                    clear ho91 hO91 nn ht_
                    clear hb
                    clear HO79 HO83 HO86
                    refine hK.out _ _ ⟨(blk_cell BK1.out 0).trans rfl, (blk_cell BK1.out 1).trans rfl, (blk_cell BK1.out 2).trans rfl, (blk_cell BK2.out 0).trans rfl, (blk_cell BK2.out 1).trans rfl⟩ (fun hHeld => ?_)
                    clear hK K
                    refine norm_ (a' := ?_) ?_ ?_
                    rotate_left
                    · show Act.put _ (some 120) _ = _
                      simp only [Act.put, List.setIfInBounds_toArray, List.set_cons_zero, List.set_cons_succ, i64_w, i32_w]
                      rfl
                    refine pure_ (i := 7) (N := some 113) (v := ?_) (a' := ?_) #[true, true, true, true, true, true, true, true, false, false, false, false, false] rfl rfl (by kernel_rfl) (fun _ _ _ h => h) (Or.inl ⟨by rfl, ?_⟩) ?_ ?_
                    rotate_left
                    · intro w'
                      go_simp
                      with_reducible rfl
                    rotate_left
                    · simp only [Act.put, List.setIfInBounds_toArray, List.set_cons_zero, List.set_cons_succ, i64_w, i32_w]
                      rfl
                    refine pure_ (i := 8) (N := some 121) (v := ?_) (a' := ?_) #[true, true, true, true, true, true, true, true, true, false, false, false, false] rfl rfl (by kernel_rfl) (fun _ _ _ h => h) (Or.inl ⟨by rfl, ?_⟩) ?_ ?_
                    rotate_left
                    · intro w'
                      go_simp
                      with_reducible rfl
                    rotate_left
                    · simp only [Act.put, List.setIfInBounds_toArray, List.set_cons_zero, List.set_cons_succ, i64_w, i32_w]
                      rfl
                    refine pure_ (i := 9) (N := some 122) (v := ?_) (a' := ?_) #[true, true, true, true, true, true, true, true, true, true, false, false, false] rfl rfl (by kernel_rfl) (fun _ _ _ h => h) (Or.inl ⟨by rfl, ?_⟩) ?_ ?_
                    rotate_left
                    · intro w'
                      go_simp
                      with_reducible rfl
                    rotate_left
                    · simp only [Act.put, List.setIfInBounds_toArray, List.set_cons_zero, List.set_cons_succ, i64_w, i32_w]
                      rfl
                    refine one_ (i := 10) (N := some 18) #[true, true, true, true, true, true, true, true, true, true, true, false, false] rfl rfl (by kernel_rfl) (by decide) (fun K hK => ?_)
                    refine box_step (by rfl) (N := 18) rfl (cs := #[.slice none 0 0, .bool false]) (t := 39) ?hr ?_
                    (case hr => first | (go_simp; done) | (go_simp; rfl))
                    intro gb7 hg W64 hbox hb
                    have nn : hi91 ≤ gb7 := Nat.le_trans HT.out (Nat.le_of_eq hg.symm)
                    have GE7 := Aside0.mk (Nat.le_trans (below_size HB.out) (Nat.le_of_eq hg.symm))
                    replace HO21 := Aside0.mk (Kd.R_below HO21.out hb)
                    replace HO38 := Aside0.mk (Kd.R_below HO38.out hb)
                    replace HO91 := Aside0.mk (Kd.R_below HO91.out hb)
                    replace BK1 := Aside0.mk (blk_below (g := gb1) (o := .cells #[.int .i64 a0_0, .slice A0_1 l0_1.length c0_1, .int .i64 a0_2] 24 (0, 0)) BK1.out hb)
                    replace BK2 := Aside0.mk (blk_below (g := gb2) (o := .cells #[.slice A1_0 l1_0.length c1_0, .bool a1_1] 35 (0, 0)) BK2.out hb)
                    replace BK3 := Aside0.mk (blk_below (g := gb3) (o := .cells #[.slice B21 t18.length d21, .bool t19] 39 (0, 0)) BK3.out hb)
                    replace BK4 := Aside0.mk (blk_below (g := gb4) (o := .cells #[.int .i64 t23, .slice B26 t61.length d26, .int .i64 t25] 27 (0, 0)) BK4.out hb)
                    replace BK5 := Aside0.mk (blk_below (g := gb5) (o := .cells #[.slice B30 t64.length d30, .bool t29] 39 (0, 0)) BK5.out hb)
                    replace BK6 := Aside0.mk (blk_below (g := gb6) (o := .cells #[.slice B38 t72.length d38, .bool t36] 39 (0, 0)) BK6.out hb)
                    replace HB := Aside0.mk (below_step HB.out hb)
                    replace HT := Aside0.mk (Nat.le_trans HT.out hb.size)
                    have BK7 := Aside0.mk hbox
                    replace HT := Aside0.mk (Nat.succ_le_of_lt (blk_lt hbox))
                    replace HN := Aside0.mk (And.intro nn HN.out)
                    clear hg hbox hb nn
                    refine hK.out _ _ ⟨(blk_cell BK1.out 0).trans rfl, (blk_cell BK1.out 1).trans rfl, (blk_cell BK1.out 2).trans rfl, (blk_cell BK2.out 0).trans rfl, (blk_cell BK2.out 1).trans rfl⟩ (fun hHeld => ?_)
                    clear hK K
                    refine norm_ (a' := ?_) ?_ ?_
                    rotate_left
                    · show Act.put _ (some 18) _ = _
                      simp only [Act.put, List.setIfInBounds_toArray, List.set_cons_zero, List.set_cons_succ, i64_w, i32_w]
                      rfl
                    exact norm_ (by first | (simp only [putAll, Act.put, List.setIfInBounds_toArray, List.set_cons_zero, List.set_cons_succ]; done) | (simp only [putAll, Act.put, List.setIfInBounds_toArray, List.set_cons_zero, List.set_cons_succ]; rfl)) (hJ4 (B79, d79, B83, d83, B86, d86, B91, d91, gb7) _ ⟨lo91, hi91, gb7.succ, HO21, HO38, HO91, BK1, BK2, BK3, BK4, BK5, BK6, BK7, HB, HT, GE7, ⟨by have hn_ := HN.out; (try dsimp only); omega⟩⟩)
                  · skip
                    refine box_step (by rfl) (N := 18) rfl (cs := #[.slice none 0 0, .bool false]) (t := 39) ?hr ?_
                    (case hr => first | (go_simp; done) | (go_simp; rfl))
                    intro gb7 hg W65 hbox hb
                    have nn : hi86 ≤ gb7 := Nat.le_trans HT.out (Nat.le_of_eq hg.symm)
                    have GE7 := Aside0.mk (Nat.le_trans (below_size HB.out) (Nat.le_of_eq hg.symm))
                    replace HO21 := Aside0.mk (Kd.R_below HO21.out hb)
                    replace HO38 := Aside0.mk (Kd.R_below HO38.out hb)
                    replace HO79 := Aside0.mk (Kd.S_below HO79.out hb)
                    replace HO83 := Aside0.mk (Kd.R_below HO83.out hb)
                    replace HO86 := Aside0.mk (Kd.R_below HO86.out hb)
                    replace BK1 := Aside0.mk (blk_below (g := gb1) (o := .cells #[.int .i64 a0_0, .slice A0_1 l0_1.length c0_1, .int .i64 a0_2] 24 (0, 0)) BK1.out hb)
                    replace BK2 := Aside0.mk (blk_below (g := gb2) (o := .cells #[.slice A1_0 l1_0.length c1_0, .bool a1_1] 35 (0, 0)) BK2.out hb)
                    replace BK3 := Aside0.mk (blk_below (g := gb3) (o := .cells #[.slice B21 t18.length d21, .bool t19] 39 (0, 0)) BK3.out hb)
                    replace BK4 := Aside0.mk (blk_below (g := gb4) (o := .cells #[.int .i64 t23, .slice B26 t61.length d26, .int .i64 t25] 27 (0, 0)) BK4.out hb)
                    replace BK5 := Aside0.mk (blk_below (g := gb5) (o := .cells #[.slice B30 t64.length d30, .bool t29] 39 (0, 0)) BK5.out hb)
                    replace BK6 := Aside0.mk (blk_below (g := gb6) (o := .cells #[.slice B38 t72.length d38, .bool t36] 39 (0, 0)) BK6.out hb)
                    replace HB := Aside0.mk (below_step HB.out hb)
                    replace HT := Aside0.mk (Nat.le_trans HT.out hb.size)
                    have BK7 := Aside0.mk hbox
                    replace HT := Aside0.mk (Nat.succ_le_of_lt (blk_lt hbox))
                    replace HN := Aside0.mk (And.intro nn HN.out)
                    clear hg hbox hb nn
                    refine hK.out _ _ ⟨(blk_cell BK1.out 0).trans rfl, (blk_cell BK1.out 1).trans rfl, (blk_cell BK1.out 2).trans rfl, (blk_cell BK2.out 0).trans rfl, (blk_cell BK2.out 1).trans rfl⟩ (fun hHeld => ?_)
                    clear hK K
                    refine norm_ (a' := ?_) ?_ ?_
                    rotate_left
                    · show Act.put _ (some 18) _ = _
                      simp only [Act.put, List.setIfInBounds_toArray, List.set_cons_zero, List.set_cons_succ, i64_w, i32_w]
                      rfl
                    exact norm_ (by first | (simp only [putAll, Act.put, List.setIfInBounds_toArray, List.set_cons_zero, List.set_cons_succ]; done) | (simp only [putAll, Act.put, List.setIfInBounds_toArray, List.set_cons_zero, List.set_cons_succ]; rfl)) (hJ3 (B79, d79, B83, d83, B86, d86, gb7) _ ⟨lo79, hi79, lo83, hi83, lo86, hi86, gb7.succ, HO21, HO38, HO79, HO83, HO86, BK1, BK2, BK3, BK4, BK5, BK6, BK7, HB, HT, GE7, ⟨by have hn_ := HN.out; (try dsimp only); omega⟩⟩)
                · skip
                  refine box_step (by rfl) (N := 18) rfl (cs := #[.slice none 0 0, .bool false]) (t := 39) ?hr ?_
                  (case hr => first | (go_simp; done) | (go_simp; rfl))
                  intro gb7 hg W66 hbox hb
                  have nn : hi83 ≤ gb7 := Nat.le_trans HT.out (Nat.le_of_eq hg.symm)
                  have GE7 := Aside0.mk (Nat.le_trans (below_size HB.out) (Nat.le_of_eq hg.symm))
                  replace HO21 := Aside0.mk (Kd.R_below HO21.out hb)
                  replace HO38 := Aside0.mk (Kd.R_below HO38.out hb)
                  replace HO79 := Aside0.mk (Kd.S_below HO79.out hb)
                  replace HO83 := Aside0.mk (Kd.R_below HO83.out hb)
                  replace BK1 := Aside0.mk (blk_below (g := gb1) (o := .cells #[.int .i64 a0_0, .slice A0_1 l0_1.length c0_1, .int .i64 a0_2] 24 (0, 0)) BK1.out hb)
                  replace BK2 := Aside0.mk (blk_below (g := gb2) (o := .cells #[.slice A1_0 l1_0.length c1_0, .bool a1_1] 35 (0, 0)) BK2.out hb)
                  replace BK3 := Aside0.mk (blk_below (g := gb3) (o := .cells #[.slice B21 t18.length d21, .bool t19] 39 (0, 0)) BK3.out hb)
                  replace BK4 := Aside0.mk (blk_below (g := gb4) (o := .cells #[.int .i64 t23, .slice B26 t61.length d26, .int .i64 t25] 27 (0, 0)) BK4.out hb)
                  replace BK5 := Aside0.mk (blk_below (g := gb5) (o := .cells #[.slice B30 t64.length d30, .bool t29] 39 (0, 0)) BK5.out hb)
                  replace BK6 := Aside0.mk (blk_below (g := gb6) (o := .cells #[.slice B38 t72.length d38, .bool t36] 39 (0, 0)) BK6.out hb)
                  replace HB := Aside0.mk (below_step HB.out hb)
                  replace HT := Aside0.mk (Nat.le_trans HT.out hb.size)
                  have BK7 := Aside0.mk hbox
                  replace HT := Aside0.mk (Nat.succ_le_of_lt (blk_lt hbox))
                  replace HN := Aside0.mk (And.intro nn HN.out)
                  clear hg hbox hb nn
                  refine hK.out _ _ ⟨(blk_cell BK1.out 0).trans rfl, (blk_cell BK1.out 1).trans rfl, (blk_cell BK1.out 2).trans rfl, (blk_cell BK2.out 0).trans rfl, (blk_cell BK2.out 1).trans rfl⟩ (fun hHeld => ?_)
                  clear hK K
                  refine norm_ (a' := ?_) ?_ ?_
                  rotate_left
                  · show Act.put _ (some 18) _ = _
                    simp only [Act.put, List.setIfInBounds_toArray, List.set_cons_zero, List.set_cons_succ, i64_w, i32_w]
                    rfl
                  exact norm_ (by first | (simp only [putAll, Act.put, List.setIfInBounds_toArray, List.set_cons_zero, List.set_cons_succ]; done) | (simp only [putAll, Act.put, List.setIfInBounds_toArray, List.set_cons_zero, List.set_cons_succ]; rfl)) (hJ2 (B79, d79, B83, d83, gb7) _ ⟨lo79, hi79, lo83, hi83, gb7.succ, HO21, HO38, HO79, HO83, BK1, BK2, BK3, BK4, BK5, BK6, BK7, HB, HT, GE7, ⟨by have hn_ := HN.out; (try dsimp only); omega⟩⟩)
              · skip
                refine box_step (by rfl) (N := 18) rfl (cs := #[.slice none 0 0, .bool false]) (t := 39) ?hr ?_
                (case hr => first | (go_simp; done) | (go_simp; rfl))
                intro gb7 hg W67 hbox hb
                have nn : hi79 ≤ gb7 := Nat.le_trans HT.out (Nat.le_of_eq hg.symm)
                have GE7 := Aside0.mk (Nat.le_trans (below_size HB.out) (Nat.le_of_eq hg.symm))
                replace HO21 := Aside0.mk (Kd.R_below HO21.out hb)
                replace HO38 := Aside0.mk (Kd.R_below HO38.out hb)
                replace HO79 := Aside0.mk (Kd.S_below HO79.out hb)
                replace BK1 := Aside0.mk (blk_below (g := gb1) (o := .cells #[.int .i64 a0_0, .slice A0_1 l0_1.length c0_1, .int .i64 a0_2] 24 (0, 0)) BK1.out hb)
                replace BK2 := Aside0.mk (blk_below (g := gb2) (o := .cells #[.slice A1_0 l1_0.length c1_0, .bool a1_1] 35 (0, 0)) BK2.out hb)
                replace BK3 := Aside0.mk (blk_below (g := gb3) (o := .cells #[.slice B21 t18.length d21, .bool t19] 39 (0, 0)) BK3.out hb)
                replace BK4 := Aside0.mk (blk_below (g := gb4) (o := .cells #[.int .i64 t23, .slice B26 t61.length d26, .int .i64 t25] 27 (0, 0)) BK4.out hb)
                replace BK5 := Aside0.mk (blk_below (g := gb5) (o := .cells #[.slice B30 t64.length d30, .bool t29] 39 (0, 0)) BK5.out hb)
                replace BK6 := Aside0.mk (blk_below (g := gb6) (o := .cells #[.slice B38 t72.length d38, .bool t36] 39 (0, 0)) BK6.out hb)
                replace HB := Aside0.mk (below_step HB.out hb)
                replace HT := Aside0.mk (Nat.le_trans HT.out hb.size)
                have BK7 := Aside0.mk hbox
                replace HT := Aside0.mk (Nat.succ_le_of_lt (blk_lt hbox))
                replace HN := Aside0.mk (And.intro nn HN.out)
                clear hg hbox hb nn
                refine hK.out _ _ ⟨(blk_cell BK1.out 0).trans rfl, (blk_cell BK1.out 1).trans rfl, (blk_cell BK1.out 2).trans rfl, (blk_cell BK2.out 0).trans rfl, (blk_cell BK2.out 1).trans rfl⟩ (fun hHeld => ?_)
                clear hK K
                refine norm_ (a' := ?_) ?_ ?_
                rotate_left
                · show Act.put _ (some 18) _ = _
                  simp only [Act.put, List.setIfInBounds_toArray, List.set_cons_zero, List.set_cons_succ, i64_w, i32_w]
                  rfl
                exact norm_ (by first | (simp only [putAll, Act.put, List.setIfInBounds_toArray, List.set_cons_zero, List.set_cons_succ]; done) | (simp only [putAll, Act.put, List.setIfInBounds_toArray, List.set_cons_zero, List.set_cons_succ]; rfl)) (hJ1 (B79, d79, gb7) _ ⟨lo79, hi79, gb7.succ, HO21, HO38, HO79, BK1, BK2, BK3, BK4, BK5, BK6, BK7, HB, HT, GE7, ⟨by have hn_ := HN.out; (try dsimp only); omega⟩⟩)
            · skip
              refine box_step (by rfl) (N := 18) rfl (cs := #[.slice none 0 0, .bool false]) (t := 39) ?hr ?_
              (case hr => first | (go_simp; done) | (go_simp; rfl))
              intro gb7 hg W68 hbox hb
              have nn : hi56 ≤ gb7 := Nat.le_trans HT.out (Nat.le_of_eq hg.symm)
              have GE7 := Aside0.mk (Nat.le_trans (below_size HB.out) (Nat.le_of_eq hg.symm))
              replace HO21 := Aside0.mk (Kd.R_below HO21.out hb)
              replace HO38 := Aside0.mk (Kd.R_below HO38.out hb)
              replace BK1 := Aside0.mk (blk_below (g := gb1) (o := .cells #[.int .i64 a0_0, .slice A0_1 l0_1.length c0_1, .int .i64 a0_2] 24 (0, 0)) BK1.out hb)
              replace BK2 := Aside0.mk (blk_below (g := gb2) (o := .cells #[.slice A1_0 l1_0.length c1_0, .bool a1_1] 35 (0, 0)) BK2.out hb)
              replace BK3 := Aside0.mk (blk_below (g := gb3) (o := .cells #[.slice B21 t18.length d21, .bool t19] 39 (0, 0)) BK3.out hb)
              replace BK4 := Aside0.mk (blk_below (g := gb4) (o := .cells #[.int .i64 t23, .slice B26 t61.length d26, .int .i64 t25] 27 (0, 0)) BK4.out hb)
              replace BK5 := Aside0.mk (blk_below (g := gb5) (o := .cells #[.slice B30 t64.length d30, .bool t29] 39 (0, 0)) BK5.out hb)
              replace BK6 := Aside0.mk (blk_below (g := gb6) (o := .cells #[.slice B38 t72.length d38, .bool t36] 39 (0, 0)) BK6.out hb)
              replace HB := Aside0.mk (below_step HB.out hb)
              replace HT := Aside0.mk (Nat.le_trans HT.out hb.size)
              have BK7 := Aside0.mk hbox
              replace HT := Aside0.mk (Nat.succ_le_of_lt (blk_lt hbox))
              replace HN := Aside0.mk (And.intro nn HN.out)
              clear hg hbox hb nn
              refine hK.out _ _ ⟨(blk_cell BK1.out 0).trans rfl, (blk_cell BK1.out 1).trans rfl, (blk_cell BK1.out 2).trans rfl, (blk_cell BK2.out 0).trans rfl, (blk_cell BK2.out 1).trans rfl⟩ (fun hHeld => ?_)
              clear hK K
              refine norm_ (a' := ?_) ?_ ?_
              rotate_left
              · show Act.put _ (some 18) _ = _
                simp only [Act.put, List.setIfInBounds_toArray, List.set_cons_zero, List.set_cons_succ, i64_w, i32_w]
                rfl
              exact norm_ (by first | (simp only [putAll, Act.put, List.setIfInBounds_toArray, List.set_cons_zero, List.set_cons_succ]; done) | (simp only [putAll, Act.put, List.setIfInBounds_toArray, List.set_cons_zero, List.set_cons_succ]; rfl)) (hJ0 (gb7) _ ⟨gb7.succ, HO21, HO38, BK1, BK2, BK3, BK4, BK5, BK6, BK7, HB, HT, GE7, ⟨by have hn_ := HN.out; (try dsimp only); omega⟩⟩)
          · skip
            clear HO21 HO38 BK1 BK2 BK3 BK4 BK5 BK6 HB HT
            (try clear hHeld)
            intro s_ W69 hF
            obtain ⟨gb7, hs_⟩ : ∃ x, x = s_ := ⟨_, rfl⟩
            subst hs_
            (try dsimp only at hF)
            obtain ⟨T0_, HO21, HO38, BK1, BK2, BK3, BK4, BK5, BK6, BK7, HB, HT, GE7, nn_⟩ := hF
            replace HN := Aside0.mk (And.intro nn_.out HN.out)
            clear nn_
            refine norm_ (a' := ?_) ?_ ?_
            rotate_left
            · simp only [putAll, Act.put, List.setIfInBounds_toArray, List.set_cons_zero, List.set_cons_succ]
              rfl
            refine one_ (i := 1) (N := some 115) #[true, true, true, false, true, false, false, false, false, false, true, false, false] rfl rfl (by kernel_rfl) (by decide) (fun K hK => ?_)
            refine goes_ Try.func14 (by kernel_rfl) rfl #[.agg #[.int .i64 a0_0, .slice A0_1 l0_1.length c0_1, .int .i64 a0_2]] (by rfl) rfl rfl (by (try simp only [List.map_toArray, List.map_cons, List.map_nil]); first | done | rfl) ?_
            with_reducible refine (laws_toKeep.calls k a0_0 _ _ l0_1 a0_2 t76 t77 t78 _ (Kd.C_below HR0_1.out HB.out) HC0_1.out A75.out).mono ?_
            rintro e W70 ⟨v79, rfl, ho79, hb⟩
            refine ⟨_, rfl, ?_⟩
            obtain ⟨B79, d79, e_⟩ := Kd.S_slice ho79
            subst e_
            obtain ⟨lo79, hi79, nn, ht_, hO79⟩ := laws_FnExactRideOver.newS ho79 HT.out (below_size HB.out) hb.size
            replace HO21 := Aside0.mk (Kd.R_below HO21.out hb)
            replace HO38 := Aside0.mk (Kd.R_below HO38.out hb)
            replace BK1 := Aside0.mk (blk_below (g := gb1) (o := .cells #[.int .i64 a0_0, .slice A0_1 l0_1.length c0_1, .int .i64 a0_2] 24 (0, 0)) BK1.out hb)
            replace BK2 := Aside0.mk (blk_below (g := gb2) (o := .cells #[.slice A1_0 l1_0.length c1_0, .bool a1_1] 35 (0, 0)) BK2.out hb)
            replace BK3 := Aside0.mk (blk_below (g := gb3) (o := .cells #[.slice B21 t18.length d21, .bool t19] 39 (0, 0)) BK3.out hb)
            replace BK4 := Aside0.mk (blk_below (g := gb4) (o := .cells #[.int .i64 t23, .slice B26 t61.length d26, .int .i64 t25] 27 (0, 0)) BK4.out hb)
            replace BK5 := Aside0.mk (blk_below (g := gb5) (o := .cells #[.slice B30 t64.length d30, .bool t29] 39 (0, 0)) BK5.out hb)
            replace BK6 := Aside0.mk (blk_below (g := gb6) (o := .cells #[.slice B38 t72.length d38, .bool t36] 39 (0, 0)) BK6.out hb)
            replace BK7 := Aside0.mk (blk_below (g := gb7) (o := .cells #[.slice none 0 0, .bool false] 39 (0, 0)) BK7.out hb)
            replace HB := Aside0.mk (below_step HB.out hb)
            replace HT := Aside0.mk (Nat.le_trans HT.out hb.size)
            have HO79 := Aside0.mk hO79
            replace HT := Aside0.mk ht_
            replace HN := Aside0.mk (And.intro nn HN.out)
            clear ho79 hO79 nn ht_
            clear hb
            refine hK.out _ _ ⟨(blk_cell BK1.out 0).trans rfl, (blk_cell BK1.out 1).trans rfl, (blk_cell BK1.out 2).trans rfl, (blk_cell BK2.out 0).trans rfl, (blk_cell BK2.out 1).trans rfl⟩ (fun hHeld => ?_)
            clear hK K
            refine norm_ (a' := ?_) ?_ ?_
            rotate_left
            · show Act.put _ (some 115) _ = _
              simp only [Act.put, List.setIfInBounds_toArray, List.set_cons_zero, List.set_cons_succ, i64_w, i32_w]
              rfl
            exact norm_ (by first | (simp only [putAll, Act.put, List.setIfInBounds_toArray, List.set_cons_zero, List.set_cons_succ]; done) | (simp only [putAll, Act.put, List.setIfInBounds_toArray, List.set_cons_zero, List.set_cons_succ]; rfl)) (hJ1 (B79, d79, gb7) _ ⟨lo79, hi79, hi79, HO21, HO38, HO79, BK1, BK2, BK3, BK4, BK5, BK6, BK7, HB, HT, GE7, ⟨by have hn_ := HN.out; (try dsimp only); omega⟩⟩)
        · skip
          clear HO21 HO38 BK1 BK2 BK3 BK4 BK5 BK6 HB HT
          (try clear hHeld)
          intro s_ W71 hF
          obtain ⟨B79, d79, gb7⟩ := s_
          (try dsimp only at hF)
          obtain ⟨lo79, hi79, T1_, HO21, HO38, HO79, BK1, BK2, BK3, BK4, BK5, BK6, BK7, HB, HT, GE7, nn_⟩ := hF
          replace HN := Aside0.mk (And.intro nn_.out HN.out)
          clear nn_
          refine norm_ (a' := ?_) ?_ ?_
          rotate_left
          · simp only [putAll, Act.put, List.setIfInBounds_toArray, List.set_cons_zero, List.set_cons_succ]
            rfl
          refine one_ (i := 3) (N := some 117) #[true, true, true, true, true, false, false, false, false, false, true, false, false] rfl rfl (by kernel_rfl) (by decide) (fun K hK => ?_)
          refine goes_ Try.func21 (by kernel_rfl) rfl #[.agg #[.slice A1_0 l1_0.length c1_0, .bool a1_1]] (by rfl) rfl rfl (by (try simp only [List.map_toArray, List.map_cons, List.map_nil]); first | done | rfl) ?_
          with_reducible refine (laws_toBank.calls k _ _ l1_0 a1_1 t81 t82 _ (Kd.C_below HR1_0.out HB.out) HC1_0.out A80.out).mono ?_
          rintro e W72 ⟨v83, rfl, ho83, hb⟩
          refine ⟨_, rfl, ?_⟩
          obtain ⟨B83, d83, e_⟩ := Kd.R_slice ho83
          subst e_
          obtain ⟨lo83, hi83, nn, ht_, hO83⟩ := laws_FnExactRideOver.newR ho83 HT.out (below_size HB.out) hb.size
          replace HO21 := Aside0.mk (Kd.R_below HO21.out hb)
          replace HO38 := Aside0.mk (Kd.R_below HO38.out hb)
          replace HO79 := Aside0.mk (Kd.S_below HO79.out hb)
          replace BK1 := Aside0.mk (blk_below (g := gb1) (o := .cells #[.int .i64 a0_0, .slice A0_1 l0_1.length c0_1, .int .i64 a0_2] 24 (0, 0)) BK1.out hb)
          replace BK2 := Aside0.mk (blk_below (g := gb2) (o := .cells #[.slice A1_0 l1_0.length c1_0, .bool a1_1] 35 (0, 0)) BK2.out hb)
          replace BK3 := Aside0.mk (blk_below (g := gb3) (o := .cells #[.slice B21 t18.length d21, .bool t19] 39 (0, 0)) BK3.out hb)
          replace BK4 := Aside0.mk (blk_below (g := gb4) (o := .cells #[.int .i64 t23, .slice B26 t61.length d26, .int .i64 t25] 27 (0, 0)) BK4.out hb)
          replace BK5 := Aside0.mk (blk_below (g := gb5) (o := .cells #[.slice B30 t64.length d30, .bool t29] 39 (0, 0)) BK5.out hb)
          replace BK6 := Aside0.mk (blk_below (g := gb6) (o := .cells #[.slice B38 t72.length d38, .bool t36] 39 (0, 0)) BK6.out hb)
          replace BK7 := Aside0.mk (blk_below (g := gb7) (o := .cells #[.slice none 0 0, .bool false] 39 (0, 0)) BK7.out hb)
          replace HB := Aside0.mk (below_step HB.out hb)
          replace HT := Aside0.mk (Nat.le_trans HT.out hb.size)
          have HO83 := Aside0.mk hO83
          replace HT := Aside0.mk ht_
          replace HN := Aside0.mk (And.intro nn HN.out)
          clear ho83 hO83 nn ht_
          clear hb
          refine hK.out _ _ ⟨(blk_cell BK1.out 0).trans rfl, (blk_cell BK1.out 1).trans rfl, (blk_cell BK1.out 2).trans rfl, (blk_cell BK2.out 0).trans rfl, (blk_cell BK2.out 1).trans rfl⟩ (fun hHeld => ?_)
          clear hK K
          refine norm_ (a' := ?_) ?_ ?_
          rotate_left
          · show Act.put _ (some 117) _ = _
            simp only [Act.put, List.setIfInBounds_toArray, List.set_cons_zero, List.set_cons_succ, i64_w, i32_w]
            rfl
          exact norm_ (by first | (simp only [putAll, Act.put, List.setIfInBounds_toArray, List.set_cons_zero, List.set_cons_succ]; done) | (simp only [putAll, Act.put, List.setIfInBounds_toArray, List.set_cons_zero, List.set_cons_succ]; rfl)) (hJ2 (B79, d79, B83, d83, gb7) _ ⟨lo79, hi79, lo83, hi83, hi83, HO21, HO38, HO79, HO83, BK1, BK2, BK3, BK4, BK5, BK6, BK7, HB, HT, GE7, ⟨by have hn_ := HN.out; (try dsimp only); omega⟩⟩)
      · skip
        clear HO21 HO38 BK1 BK2 BK3 BK4 BK5 BK6 HB HT
        (try clear hHeld)
        intro s_ W73 hF
        obtain ⟨B79, d79, B83, d83, gb7⟩ := s_
        (try dsimp only at hF)
        obtain ⟨lo79, hi79, lo83, hi83, T2_, HO21, HO38, HO79, HO83, BK1, BK2, BK3, BK4, BK5, BK6, BK7, HB, HT, GE7, nn_⟩ := hF
        replace HN := Aside0.mk (And.intro nn_.out HN.out)
        clear nn_
        refine norm_ (a' := ?_) ?_ ?_
        rotate_left
        · simp only [putAll, Act.put, List.setIfInBounds_toArray, List.set_cons_zero, List.set_cons_succ]
          rfl
        refine one_ (i := 5) (N := some 119) #[true, true, true, true, true, true, false, false, false, false, true, false, false] rfl rfl (by kernel_rfl) (by decide) (fun K hK => ?_)
        refine goes_ Try.func37 (by kernel_rfl) rfl #[.slice A2 l2.length c2] (by rfl) rfl rfl (by (try simp only [List.map_toArray, List.map_cons, List.map_nil]); first | done | rfl) ?_
        with_reducible refine (laws_toIntS.calls k _ _ l2 t85 _ (Kd.C_below HR2.out HB.out) HC2.out A84.out).mono ?_
        rintro e W74 ⟨v86, rfl, ho86, hb⟩
        refine ⟨_, rfl, ?_⟩
        obtain ⟨B86, d86, e_⟩ := Kd.R_slice ho86
        subst e_
        obtain ⟨lo86, hi86, nn, ht_, hO86⟩ := laws_FnExactRideOver.newR ho86 HT.out (below_size HB.out) hb.size
        replace HO21 := Aside0.mk (Kd.R_below HO21.out hb)
        replace HO38 := Aside0.mk (Kd.R_below HO38.out hb)
        replace HO79 := Aside0.mk (Kd.S_below HO79.out hb)
        replace HO83 := Aside0.mk (Kd.R_below HO83.out hb)
        replace BK1 := Aside0.mk (blk_below (g := gb1) (o := .cells #[.int .i64 a0_0, .slice A0_1 l0_1.length c0_1, .int .i64 a0_2] 24 (0, 0)) BK1.out hb)
        replace BK2 := Aside0.mk (blk_below (g := gb2) (o := .cells #[.slice A1_0 l1_0.length c1_0, .bool a1_1] 35 (0, 0)) BK2.out hb)
        replace BK3 := Aside0.mk (blk_below (g := gb3) (o := .cells #[.slice B21 t18.length d21, .bool t19] 39 (0, 0)) BK3.out hb)
        replace BK4 := Aside0.mk (blk_below (g := gb4) (o := .cells #[.int .i64 t23, .slice B26 t61.length d26, .int .i64 t25] 27 (0, 0)) BK4.out hb)
        replace BK5 := Aside0.mk (blk_below (g := gb5) (o := .cells #[.slice B30 t64.length d30, .bool t29] 39 (0, 0)) BK5.out hb)
        replace BK6 := Aside0.mk (blk_below (g := gb6) (o := .cells #[.slice B38 t72.length d38, .bool t36] 39 (0, 0)) BK6.out hb)
        replace BK7 := Aside0.mk (blk_below (g := gb7) (o := .cells #[.slice none 0 0, .bool false] 39 (0, 0)) BK7.out hb)
        replace HB := Aside0.mk (below_step HB.out hb)
        replace HT := Aside0.mk (Nat.le_trans HT.out hb.size)
        have HO86 := Aside0.mk hO86
        replace HT := Aside0.mk ht_
        replace HN := Aside0.mk (And.intro nn HN.out)
        clear ho86 hO86 nn ht_
        clear hb
        refine hK.out _ _ ⟨(blk_cell BK1.out 0).trans rfl, (blk_cell BK1.out 1).trans rfl, (blk_cell BK1.out 2).trans rfl, (blk_cell BK2.out 0).trans rfl, (blk_cell BK2.out 1).trans rfl⟩ (fun hHeld => ?_)
        clear hK K
        refine norm_ (a' := ?_) ?_ ?_
        rotate_left
        · show Act.put _ (some 119) _ = _
          simp only [Act.put, List.setIfInBounds_toArray, List.set_cons_zero, List.set_cons_succ, i64_w, i32_w]
          rfl
        exact norm_ (by first | (simp only [putAll, Act.put, List.setIfInBounds_toArray, List.set_cons_zero, List.set_cons_succ]; done) | (simp only [putAll, Act.put, List.setIfInBounds_toArray, List.set_cons_zero, List.set_cons_succ]; rfl)) (hJ3 (B79, d79, B83, d83, B86, d86, gb7) _ ⟨lo79, hi79, lo83, hi83, lo86, hi86, hi86, HO21, HO38, HO79, HO83, HO86, BK1, BK2, BK3, BK4, BK5, BK6, BK7, HB, HT, GE7, ⟨by have hn_ := HN.out; (try dsimp only); omega⟩⟩)
    · skip
      clear HO21 HO38 BK1 BK2 BK3 BK4 BK5 BK6 HB HT
      (try clear hHeld)
      intro s_ W75 hF
      obtain ⟨B79, d79, B83, d83, B86, d86, gb7⟩ := s_
      (try dsimp only at hF)
      obtain ⟨lo79, hi79, lo83, hi83, lo86, hi86, T3_, HO21, HO38, HO79, HO83, HO86, BK1, BK2, BK3, BK4, BK5, BK6, BK7, HB, HT, GE7, nn_⟩ := hF
      replace HN := Aside0.mk (And.intro nn_.out HN.out)
      clear nn_
      refine norm_ (a' := ?_) ?_ ?_
      rotate_left
      · simp only [putAll, Act.put, List.setIfInBounds_toArray, List.set_cons_zero, List.set_cons_succ]
        rfl
      refine one_ (i := 6) (N := some 120) #[true, true, true, true, true, true, true, false, false, false, true, false, false] rfl rfl (by kernel_rfl) (by decide) (fun K hK => ?_)
      refine goes_ Try.func38 (by kernel_rfl) rfl #[.agg #[.int .i64 t76, .slice B79 t77.length d79, .int .i64 t78], .agg #[.slice B83 t81.length d83, .bool t82], .slice B86 t85.length d86] (by rfl) rfl rfl (by (try simp only [List.map_toArray, List.map_cons, List.map_nil]); first | done | rfl) ?_
      with_reducible refine (impl_RideOver.calls k t76 _ _ t77 t78 _ _ t81 t82 _ _ t85 t88 t89 t90 _ (Kd.R_reads' (Kd.S_R HO79.out)).2.2 (Kd.R_reads' (Kd.S_R HO79.out)).2.1 (Kd.R_reads' HO83.out).2.2 (Kd.R_reads' HO83.out).2.1 (Kd.R_reads' HO86.out).2.2 (Kd.R_reads' HO86.out).2.1 A87.out).mono ?_
      rintro e W76 ⟨v91, rfl, ho91, hb⟩
      refine ⟨_, rfl, ?_⟩
      obtain ⟨B91, d91, e_⟩ := Kd.R_slice ho91
      subst e_
      obtain ⟨lo91, hi91, nn, ht_, hO91⟩ := laws_FnExactRideOver.newR ho91 HT.out (below_size HB.out) hb.size
      replace HO21 := Aside0.mk (Kd.R_below HO21.out hb)
      replace HO38 := Aside0.mk (Kd.R_below HO38.out hb)
      replace HO79 := Aside0.mk (Kd.S_below HO79.out hb)
      replace HO83 := Aside0.mk (Kd.R_below HO83.out hb)
      replace HO86 := Aside0.mk (Kd.R_below HO86.out hb)
      replace BK1 := Aside0.mk (blk_below (g := gb1) (o := .cells #[.int .i64 a0_0, .slice A0_1 l0_1.length c0_1, .int .i64 a0_2] 24 (0, 0)) BK1.out hb)
      replace BK2 := Aside0.mk (blk_below (g := gb2) (o := .cells #[.slice A1_0 l1_0.length c1_0, .bool a1_1] 35 (0, 0)) BK2.out hb)
      replace BK3 := Aside0.mk (blk_below (g := gb3) (o := .cells #[.slice B21 t18.length d21, .bool t19] 39 (0, 0)) BK3.out hb)
      replace BK4 := Aside0.mk (blk_below (g := gb4) (o := .cells #[.int .i64 t23, .slice B26 t61.length d26, .int .i64 t25] 27 (0, 0)) BK4.out hb)
      replace BK5 := Aside0.mk (blk_below (g := gb5) (o := .cells #[.slice B30 t64.length d30, .bool t29] 39 (0, 0)) BK5.out hb)
      replace BK6 := Aside0.mk (blk_below (g := gb6) (o := .cells #[.slice B38 t72.length d38, .bool t36] 39 (0, 0)) BK6.out hb)
      replace BK7 := Aside0.mk (blk_below (g := gb7) (o := .cells #[.slice none 0 0, .bool false] 39 (0, 0)) BK7.out hb)
      replace HB := Aside0.mk (below_step HB.out hb)
      replace HT := Aside0.mk (Nat.le_trans HT.out hb.size)
      have HO91 := Aside0.mk hO91
      replace HT := Aside0.mk ht_
      replace HN := Aside0.mk (And.intro nn HN.out)
      clear ho91 hO91 nn ht_
      clear hb
      clear HO79 HO83 HO86
      refine hK.out _ _ ⟨(blk_cell BK1.out 0).trans rfl, (blk_cell BK1.out 1).trans rfl, (blk_cell BK1.out 2).trans rfl, (blk_cell BK2.out 0).trans rfl, (blk_cell BK2.out 1).trans rfl⟩ (fun hHeld => ?_)
      clear hK K
      refine norm_ (a' := ?_) ?_ ?_
      rotate_left
      · show Act.put _ (some 120) _ = _
        simp only [Act.put, List.setIfInBounds_toArray, List.set_cons_zero, List.set_cons_succ, i64_w, i32_w]
        rfl
      refine pure_ (i := 7) (N := some 113) (v := ?_) (a' := ?_) #[true, true, true, true, true, true, true, true, false, false, true, false, false] rfl rfl (by kernel_rfl) (fun _ _ _ h => h) (Or.inl ⟨by rfl, ?_⟩) ?_ ?_
      rotate_left
      · intro w'
        go_simp
        with_reducible rfl
      rotate_left
      · simp only [Act.put, List.setIfInBounds_toArray, List.set_cons_zero, List.set_cons_succ, i64_w, i32_w]
        rfl
      refine pure_ (i := 8) (N := some 121) (v := ?_) (a' := ?_) #[true, true, true, true, true, true, true, true, true, false, true, false, false] rfl rfl (by kernel_rfl) (fun _ _ _ h => h) (Or.inl ⟨by rfl, ?_⟩) ?_ ?_
      rotate_left
      · intro w'
        go_simp
        with_reducible rfl
      rotate_left
      · simp only [Act.put, List.setIfInBounds_toArray, List.set_cons_zero, List.set_cons_succ, i64_w, i32_w]
        rfl
      refine pure_ (i := 9) (N := some 122) (v := ?_) (a' := ?_) #[true, true, true, true, true, true, true, true, true, true, true, false, false] rfl rfl (by kernel_rfl) (fun _ _ _ h => h) (Or.inl ⟨by rfl, ?_⟩) ?_ ?_
      rotate_left
      · intro w'
        go_simp
        with_reducible rfl
      rotate_left
      · simp only [Act.put, List.setIfInBounds_toArray, List.set_cons_zero, List.set_cons_succ, i64_w, i32_w]
        rfl
      exact norm_ (by first | (simp only [putAll, Act.put, List.setIfInBounds_toArray, List.set_cons_zero, List.set_cons_succ]; done) | (simp only [putAll, Act.put, List.setIfInBounds_toArray, List.set_cons_zero, List.set_cons_succ]; rfl)) (hJ4 (B79, d79, B83, d83, B86, d86, B91, d91, gb7) _ ⟨lo91, hi91, hi91, HO21, HO38, HO91, BK1, BK2, BK3, BK4, BK5, BK6, BK7, HB, HT, GE7, ⟨by have hn_ := HN.out; (try dsimp only); omega⟩⟩)
  clear HO21 HO38 BK1 BK2 BK3 BK4 BK5 BK6 HB HT
  (try clear hHeld)
  intro s_ W77 hF
  obtain ⟨B79, d79, B83, d83, B86, d86, B91, d91, gb7⟩ := s_
  (try dsimp only at hF)
  obtain ⟨lo91, hi91, T4_, HO21, HO38, HO91, BK1, BK2, BK3, BK4, BK5, BK6, BK7, HB, HT, GE7, nn_⟩ := hF
  replace HN := Aside0.mk (And.intro nn_.out HN.out)
  clear nn_
  refine norm_ (a' := ?_) ?_ ?_
  rotate_left
  · simp only [putAll, Act.put, List.setIfInBounds_toArray, List.set_cons_zero, List.set_cons_succ]
    rfl
  refine one_ (i := 11) (N := none) #[true, true, true, true, true, true, true, true, true, true, true, true, false] rfl rfl (by kernel_rfl) (by decide) (fun K hK => ?_)
  refine laws_FnExactRideOver.storeK (by rfl) rfl rfl gb7 39 #[.slice none 0 0, .bool false] (.agg #[.slice B91 t88.length d91, .bool t89]) [.slice B91 t88.length d91, .bool t89] rfl rfl BK7.out rfl (by kernel_rfl) rfl (by intro q_ hq_; simp only [List.mem_cons, List.not_mem_nil, or_false] at hq_; rcases hq_ with rfl | rfl <;> rfl) ?_
  intro W78 hbx hg
  replace HO21 := Aside0.mk (laws_FnExactRideOver.grownR HO21.out hg (by have hn_ := HN.out; omega))
  replace HO38 := Aside0.mk (laws_FnExactRideOver.grownR HO38.out hg (by have hn_ := HN.out; omega))
  replace HO91 := Aside0.mk (laws_FnExactRideOver.grownR HO91.out hg (by have hn_ := HN.out; omega))
  replace BK1 := Aside0.mk (laws_FnExactRideOver.grownB BK1.out hg (by have hn_ := HN.out; omega))
  replace BK2 := Aside0.mk (laws_FnExactRideOver.grownB BK2.out hg (by have hn_ := HN.out; omega))
  replace BK3 := Aside0.mk (laws_FnExactRideOver.grownB BK3.out hg (by have hn_ := HN.out; omega))
  replace BK4 := Aside0.mk (laws_FnExactRideOver.grownB BK4.out hg (by have hn_ := HN.out; omega))
  replace BK5 := Aside0.mk (laws_FnExactRideOver.grownB BK5.out hg (by have hn_ := HN.out; omega))
  replace BK6 := Aside0.mk (laws_FnExactRideOver.grownB BK6.out hg (by have hn_ := HN.out; omega))
  replace HB := Aside0.mk (Below.grown HB.out hg (below_size HB.out) (fun k_ hk_ => by injection hk_ with hk_; subst hk_; exact GE7.out))
  replace HT := Aside0.mk (Nat.le_trans HT.out hg.size)
  replace BK7 := Aside0.mk hbx
  clear hbx hg
  refine hK.out _ _ ⟨(blk_cell BK1.out 0).trans rfl, (blk_cell BK1.out 1).trans rfl, (blk_cell BK1.out 2).trans rfl, (blk_cell BK2.out 0).trans rfl, (blk_cell BK2.out 1).trans rfl⟩ (fun hHeld => ?_)
  clear hK K
  refine pure_ (i := 12) (N := some 19) (v := ?_) (a' := ?_) #[true, true, true, true, true, true, true, true, true, true, true, true, true] rfl rfl (by kernel_rfl) (fun _ _ _ h => h) (Or.inl ⟨by rfl, ?_⟩) ?_ ?_
  rotate_left
  · intro w'
    go_simp
    with_reducible rfl
  rotate_left
  · simp only [Act.put, List.setIfInBounds_toArray, List.set_cons_zero, List.set_cons_succ, i64_w, i32_w]
    rfl
  refine done_ (by kernel_rfl) ?_
  have cz7_0 : W78.cell? ⟨gb7, 0, none⟩ = some (.slice B91 t88.length d91) := (blk_cell BK7.out 0).trans rfl
  have cz7_1 : W78.cell? ⟨gb7, 1, none⟩ = some (.bool t89) := (blk_cell BK7.out 1).trans rfl
  have cz3_0 : W78.cell? ⟨gb3, 0, none⟩ = some (.slice B21 t18.length d21) := (blk_cell BK3.out 0).trans rfl
  have cz3_1 : W78.cell? ⟨gb3, 1, none⟩ = some (.bool t19) := (blk_cell BK3.out 1).trans rfl
  try go_wp2_with (first | ((with_reducible refine gate_dst (N := 125) rfl ?_); refine goesL_ (some 125) rfl rfl Try.func23 (by kernel_rfl) rfl #[.agg #[.slice B91 t88.length d91, .bool t89], .agg #[.slice B21 t18.length d21, .bool t19]] rfl (by (try simp only [List.map_toArray, List.map_cons, List.map_nil]); first | done | rfl) ?_; (with_reducible refine (laws_eqBank.calls k _ _ t88 t89 _ _ t18 t19 true _ (Kd.R_reads' HO91.out).2.2 (Kd.R_reads' HO91.out).2.1 (Kd.R_reads' HO21.out).2.2 (Kd.R_reads' HO21.out).2.1 A92.out).mono ?_); rintro e W79 ⟨rfl, hb⟩; refine ⟨_, rfl, ?_⟩; replace HO21 := Aside0.mk (Kd.R_below HO21.out hb); replace HO38 := Aside0.mk (Kd.R_below HO38.out hb); replace HO91 := Aside0.mk (Kd.R_below HO91.out hb); replace BK1 := Aside0.mk (blk_below (g := gb1) (o := .cells #[.int .i64 a0_0, .slice A0_1 l0_1.length c0_1, .int .i64 a0_2] 24 (0, 0)) BK1.out hb); replace BK2 := Aside0.mk (blk_below (g := gb2) (o := .cells #[.slice A1_0 l1_0.length c1_0, .bool a1_1] 35 (0, 0)) BK2.out hb); replace BK3 := Aside0.mk (blk_below (g := gb3) (o := .cells #[.slice B21 t18.length d21, .bool t19] 39 (0, 0)) BK3.out hb); replace BK4 := Aside0.mk (blk_below (g := gb4) (o := .cells #[.int .i64 t23, .slice B26 t61.length d26, .int .i64 t25] 27 (0, 0)) BK4.out hb); replace BK5 := Aside0.mk (blk_below (g := gb5) (o := .cells #[.slice B30 t64.length d30, .bool t29] 39 (0, 0)) BK5.out hb); replace BK6 := Aside0.mk (blk_below (g := gb6) (o := .cells #[.slice B38 t72.length d38, .bool t36] 39 (0, 0)) BK6.out hb); replace BK7 := Aside0.mk (blk_below (g := gb7) (o := .cells #[.slice B91 t88.length d91, .bool t89] 39 (0, 0)) BK7.out hb); replace HB := Aside0.mk (below_step HB.out hb); replace HT := Aside0.mk (Nat.le_trans HT.out hb.size); clear hb; clear HO21 HO91; (try clear cz7_0 cz7_1 cz3_0 cz3_1); have cz6_0 : W79.cell? ⟨gb6, 0, none⟩ = some (.slice B38 t72.length d38) := (blk_cell BK6.out 0).trans rfl; have cz6_1 : W79.cell? ⟨gb6, 1, none⟩ = some (.bool t36) := (blk_cell BK6.out 1).trans rfl) | ((with_reducible refine gate_dst (N := 134) rfl ?_); refine goesL_ (some 134) rfl rfl Try.func28 (by kernel_rfl) rfl #[.agg #[.slice B38 t72.length d38, .bool t36], .int .i64 1] rfl (by (try simp only [List.map_toArray, List.map_cons, List.map_nil]); first | done | rfl) ?_; (with_reducible refine (laws_heldBank.calls k _ _ t72 t36 1 t95 _ (Kd.R_reads' HO38.out).2.2 (Kd.R_reads' HO38.out).2.1 A94.out).mono ?_); rintro e W80 ⟨rfl, hb⟩; refine ⟨_, rfl, ?_⟩; replace HO38 := Aside0.mk (Kd.R_below HO38.out hb); replace BK1 := Aside0.mk (blk_below (g := gb1) (o := .cells #[.int .i64 a0_0, .slice A0_1 l0_1.length c0_1, .int .i64 a0_2] 24 (0, 0)) BK1.out hb); replace BK2 := Aside0.mk (blk_below (g := gb2) (o := .cells #[.slice A1_0 l1_0.length c1_0, .bool a1_1] 35 (0, 0)) BK2.out hb); replace BK3 := Aside0.mk (blk_below (g := gb3) (o := .cells #[.slice B21 t18.length d21, .bool t19] 39 (0, 0)) BK3.out hb); replace BK4 := Aside0.mk (blk_below (g := gb4) (o := .cells #[.int .i64 t23, .slice B26 t61.length d26, .int .i64 t25] 27 (0, 0)) BK4.out hb); replace BK5 := Aside0.mk (blk_below (g := gb5) (o := .cells #[.slice B30 t64.length d30, .bool t29] 39 (0, 0)) BK5.out hb); replace BK6 := Aside0.mk (blk_below (g := gb6) (o := .cells #[.slice B38 t72.length d38, .bool t36] 39 (0, 0)) BK6.out hb); replace BK7 := Aside0.mk (blk_below (g := gb7) (o := .cells #[.slice B91 t88.length d91, .bool t89] 39 (0, 0)) BK7.out hb); replace HB := Aside0.mk (below_step HB.out hb); replace HT := Aside0.mk (Nat.le_trans HT.out hb.size); clear hb; clear HO38; (try clear cz6_0 cz6_1)))
  go_ret
  exact ⟨by first | rfl | (simp; done) | (simp [*]; done), HB.out⟩

end Go.Proofs.Ytomiikbcahocaaa.G
