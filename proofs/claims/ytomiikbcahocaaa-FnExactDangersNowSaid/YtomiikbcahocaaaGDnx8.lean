-- Laid by wip/gprint.py (the session's own program, round the kit's printer) for this claim.
import Derived.Test.YtomiikbcahocaaaGDnx0
import Derived.Test.YtomiikbcahocaaaGDnx1
import Derived.Test.YtomiikbcahocaaaGDnx2
import Derived.Test.YtomiikbcahocaaaGDnx4
import Derived.Test.YtomiikbcahocaaaGDnx7
namespace Go.Proofs.Ytomiikbcahocaaa.G
open Go.RowKit Go.Proofs.YtomiikbcahocaaaW.PrintWords Go.Proofs.YtomiikbcahocaaaW.PrintLast Go.Proofs.YtomiikbcahocaaaW.PrintMore
attribute [local go_sem] max2_int min2_int max_two min_two max_three min_three max_four min_four   -- for this text's walks alone
set_option linter.unusedVariables false
set_option linter.unusedSimpArgs false

/-! ### laws_FnExactDangersNow: function 8 -/
theorem laws_FnExactDangersNow.newR {α : Type} {d : Kd α} {e T : Nat} {w W W' : World} {v : Value} {xs : List α} (h : d.R e W' W.heap.size (fun _ => True) v xs) (ht : T ≤ W.heap.size) (hw : w.heap.size ≤ W.heap.size) (hs : W.heap.size ≤ W'.heap.size) : ∃ lo hi : Nat, (T ≤ lo ∧ lo ≤ hi) ∧ hi ≤ W'.heap.size ∧ d.R e W' w.heap.size (fun k_ => lo ≤ k_ ∧ k_ < hi) v xs :=
  ⟨W.heap.size, W'.heap.size, ⟨ht, hs⟩, Nat.le_refl _, Kd.R_lower (Kd.R_mono (Kd.R_bound h) (fun _ hk => ⟨hk.2.1, hk.2.2.1⟩)) hw⟩
theorem laws_FnExactDangersNow.newS {α : Type} {d : Kd α} {e T : Nat} {w W W' : World} {v : Value} {xs : List α} (h : Kd.S d e W' W.heap.size (fun _ => True) v xs) (ht : T ≤ W.heap.size) (hw : w.heap.size ≤ W.heap.size) (hs : W.heap.size ≤ W'.heap.size) : ∃ lo hi : Nat, (T ≤ lo ∧ lo ≤ hi) ∧ hi ≤ W'.heap.size ∧ Kd.S d e W' w.heap.size (fun k_ => lo ≤ k_ ∧ k_ < hi) v xs :=
  ⟨W.heap.size, W'.heap.size, ⟨ht, hs⟩, Nat.le_refl _, Kd.S_lower (Kd.S_mono (Kd.S_bound h) (fun _ hk => ⟨hk.2.1, hk.2.2.1⟩)) hw⟩
theorem laws_FnExactDangersNow.grownR {α : Type} {d : Kd α} {e b lo hi g : Nat} {W W' : World} {v : Value} {xs : List α} (h : d.R e W b (fun k_ => lo ≤ k_ ∧ k_ < hi) v xs) (hg : W.grownBy W' (some g)) (hne : g < lo ∨ hi ≤ g) : d.R e W' b (fun k_ => lo ≤ k_ ∧ k_ < hi) v xs :=
  Kd.R_grown h hg (fun k hk he => by injection he with he; have h1 := hk.1; have h2 := hk.2; omega)
theorem laws_FnExactDangersNow.grownS {α : Type} {d : Kd α} {e b lo hi g : Nat} {W W' : World} {v : Value} {xs : List α} (h : Kd.S d e W b (fun k_ => lo ≤ k_ ∧ k_ < hi) v xs) (hg : W.grownBy W' (some g)) (hne : g < lo ∨ hi ≤ g) : Kd.S d e W' b (fun k_ => lo ≤ k_ ∧ k_ < hi) v xs :=
  Kd.S_grown h hg (fun k hk he => by injection he with he; have h1 := hk.1; have h2 := hk.2; omega)
theorem laws_FnExactDangersNow.keptR {α : Type} {d : Kd α} {e b lo hi lo' hi' : Nat} {W W' : World} {v : Value} {xs : List α} (h : d.R e W b (fun k_ => lo ≤ k_ ∧ k_ < hi) v xs) (hk : Kept W W' (fun k_ => lo' ≤ k_ ∧ k_ < hi')) (hne : hi ≤ lo' ∨ hi' ≤ lo) : d.R e W' b (fun k_ => lo ≤ k_ ∧ k_ < hi) v xs :=
  Kd.R_kept h hk (fun k h1 h2 => by have h3 := h1.1; have h4 := h1.2; have h5 := h2.1; have h6 := h2.2; omega)
theorem laws_FnExactDangersNow.keptS {α : Type} {d : Kd α} {e b lo hi lo' hi' : Nat} {W W' : World} {v : Value} {xs : List α} (h : Kd.S d e W b (fun k_ => lo ≤ k_ ∧ k_ < hi) v xs) (hk : Kept W W' (fun k_ => lo' ≤ k_ ∧ k_ < hi')) (hne : hi ≤ lo' ∨ hi' ≤ lo) : Kd.S d e W' b (fun k_ => lo ≤ k_ ∧ k_ < hi) v xs :=
  Kd.S_kept h hk (fun k h1 h2 => by have h3 := h1.1; have h4 := h1.2; have h5 := h2.1; have h6 := h2.2; omega)
theorem laws_FnExactDangersNow.keptB {lo hi g : Nat} {o : Obj} {W W' : World} (h : W.heap[g]? = some o) (hk : Kept W W' (fun k_ => lo ≤ k_ ∧ k_ < hi)) (hne : g < lo ∨ hi ≤ g) : W'.heap[g]? = some o :=
  blk_kept h hk (fun h2 => by have h5 := h2.1; have h6 := h2.2; omega)
theorem laws_FnExactDangersNow.grownB {g g' : Nat} {o : Obj} {W W' : World} (h : W.heap[g]? = some o) (hg : W.grownBy W' (some g')) (hne : g ≠ g') : W'.heap[g]? = some o :=
  (hg.block g (blk_lt h) (fun he => hne (by injection he))).trans h
theorem laws_FnExactDangersNow.runs {P : Program} {W : World} {g T : Nat} {cur : Array Value} (t : TypeId) (u : Value) (new : List Value) (hb : W.heap[g]? = some (.cells cur T (0, 0))) (hu : u.cells.toList = new) (ht : (P.info? t).map (·.size) = some new.length) (hsz : new.length = cur.size) (h1 : ∀ q ∈ new, q.oneCell' = true) :
    ∃ w1, (Instr.storeAt t (.pointer (some ⟨g, 0, none⟩)) u).run P W = .ok () w1 ∧ w1.heap[g]? = some (.cells new.toArray T (0, 0)) ∧ W.grownBy w1 (some g) := by
  refine ⟨W.setCells g 0 new, run_store_run t u new hb hu ht (by omega) h1, ?_, ?_⟩
  · obtain ⟨cur', c1, c2, c3⟩ := setCells_row new 0 W cur hb (by omega)
    rw [c1]
    rw [List.take_zero, List.nil_append, Nat.zero_add, hsz, List.drop_eq_nil_of_le (by rw [Array.length_toList]; omega), List.append_nil] at c3
    rw [← c3]
  · obtain ⟨s1, s2, s3, s4⟩ := setCells_same g new 0 W
    exact ⟨s1, s2, s3, by rw [s4]; exact Nat.le_refl _, fun k _ hk => setCells_far _ _ k (fun he => hk (by rw [he]))⟩
theorem laws_FnExactDangersNow.store {P : Program} {ops : Array Oper} {rest : List Oper} {o : Oper} {a : Act} {Q : Exit → Act → World → Prop} {W : World} (hgd : o.guard = none) (hN : o.dst = none) {t : TypeId} {p : Tmp} {x : Operand} (ho : o.op = .store t (.tmp p) x) (g T : Nat) (cur : Array Value) (u : Value) (new : List Value) (haddr : a.eval (.tmp p) = .pointer (some ⟨g, 0, none⟩)) (hx : a.eval x = u) (hb : W.heap[g]? = some (.cells cur T (0, 0))) (hu : u.cells.toList = new) (ht : (P.info? t).map (·.size) = some new.length) (hsz : new.length = cur.size) (h1 : ∀ q ∈ new, q.oneCell' = true)
    (h : ∀ w1, w1.heap[g]? = some (.cells new.toArray T (0, 0)) → W.grownBy w1 (some g) → wpList P ops Q rest a w1) : wpList P ops Q (o :: rest) a W := by
  obtain ⟨w1, hrun, h2, h3⟩ := laws_FnExactDangersNow.runs (P := P) t u new hb hu ht hsz h1
  refine wpList_plain hgd fun K hK => ?_
  unfold Oper.wp execOp
  simp only [ho, haddr, hx, Sem.run_bind, Sem.run_pure, Result.andThen_ok, hrun]
  show K (a.put o.dst undef) _
  rw [hN]
  exact hK _ _ (h w1 h2 h3)
theorem laws_FnExactDangersNow.storeK {P : Program} {ops : Array Oper} {o : Oper} {a : Act} {Q : Exit → Act → World → Prop} {Kc : Act → World → Prop} {W : World} (hw : Region.wanted o (yielded ops a.tmps) = true) (hN : o.dst = none) {t : TypeId} {p : Tmp} {x : Operand} (ho : o.op = .store t (.tmp p) x) (g T : Nat) (cur : Array Value) (u : Value) (new : List Value) (haddr : a.eval (.tmp p) = .pointer (some ⟨g, 0, none⟩)) (hx : a.eval x = u) (hb : W.heap[g]? = some (.cells cur T (0, 0))) (hu : u.cells.toList = new) (ht : (P.info? t).map (·.size) = some new.length) (hsz : new.length = cur.size) (h1 : ∀ q ∈ new, q.oneCell' = true)
    (h : ∀ w1, w1.heap[g]? = some (.cells new.toArray T (0, 0)) → W.grownBy w1 (some g) → Kc a w1) : if Region.wanted o (yielded ops a.tmps) = true then Oper.wp P o a W Kc Q else Kc (a.put none undef) W := by
  obtain ⟨w1, hrun, h2, h3⟩ := laws_FnExactDangersNow.runs (P := P) t u new hb hu ht hsz h1
  rw [if_pos hw]
  unfold Oper.wp execOp
  simp only [ho, haddr, hx, Sem.run_bind, Sem.run_pure, Result.andThen_ok, hrun]
  show Kc (a.put o.dst undef) _
  rw [hN]
  exact h w1 h2 h3
def laws_FnExactDangersNow.f (k : Nat) (a0_0 : Int) (l0_1 : List (List Int)) (a0_2 : Int) (l1_0 : List Bool) (a1_1 : Bool) : Option Bool := (laws_szKeep.f k a0_0 l0_1 a0_2 1048576).bind fun b1 => (if b1 < 0 then some true else ((laws_szBank.f l1_0 a1_1 b1).bind fun b3 => (if b3 < 0 then some true else ((laws_toKeep.f k a0_0 l0_1 a0_2).bind fun b5 => ((laws_toBank.f k l1_0 a1_1).bind fun b10 => ((spec_DangersNow.f k b5.1 b5.2.1 b5.2.2 b10.1 b10.2).bind fun b14 => ((laws_toKeep.f k a0_0 l0_1 a0_2).bind fun b18 => ((laws_toBank.f k l1_0 a1_1).bind fun b23 => ((impl_DangersNow.f k b18.1 b18.2.1 b18.2.2 b23.1 b23.2).bind fun b27 => ((laws_eqIntSS.f k b27.1 b14.1).bind fun b31 => (if b31 = true then (if (b27.2 != b14.2) = true then none else ((laws_toKeep.f k a0_0 l0_1 a0_2).bind fun b33 => ((laws_eqKeep.f k b18.1 b18.2.1 b18.2.2 b33.1 b33.2.1 b33.2.2).bind fun b38 => (if b38 = true then ((laws_toBank.f k l1_0 a1_1).bind fun b40 => ((laws_eqBank.f k b23.1 b23.2 b40.1 b40.2).bind fun b44 => (if b44 = true then ((laws_markKeep.f k b18.1 b18.2.1 b18.2.2 1).bind fun b46 => ((laws_markBank.f k b23.1 b23.2 b46.1).bind fun b49 => ((laws_eqIntSS.f k b27.1 b14.1).bind fun b52 => (if b49.1 < 0 then none else (if b52 = true then (if (b27.2 != b14.2) = true then none else ((laws_markIntSS.f k b27.1 1).bind fun b54 => ((laws_heldIntSS.f k b54.2 1).bind fun b57 => (if b57 < 0 then none else (if b57 = b54.1 then ((laws_toKeep.f k a0_0 l0_1 a0_2).bind fun b59 => ((laws_toBank.f k l1_0 a1_1).bind fun b64 => ((impl_DangersNow.f k b59.1 b59.2.1 b59.2.2 b64.1 b64.2).bind fun b68 => ((laws_eqIntSS.f k b68.1 b14.1).bind fun b72 => (if b72 = true then (if (b68.2 != b14.2) = true then none else ((laws_heldIntSS.f k b54.2 1).bind fun b74 => (if b74 < 0 then none else (if b74 = b54.1 then (some true) else none)))) else none))))) else none))))) else none))))) else none))) else none)))) else none)))))))))))
set_option maxHeartbeats 16000000 in
set_option maxRecDepth 100000 in
theorem laws_FnExactDangersNow.calls (k : Nat) (a0_0 : Int) (A0_1 : Option Addr) (c0_1 : Nat) (l0_1 : List (List Int)) (a0_2 : Int) (A1_0 : Option Addr) (c1_0 : Nat) (l1_0 : List Bool) (a1_1 : Bool) (r : Bool) (w : World) (hr0_1 : Kd.C (Kd.slice 3 (Kd.int .i64)) w A0_1 l0_1.length l0_1) (hc0_1 : l0_1.length ≤ c0_1) (hr1_0 : Kd.C Kd.bool w A1_0 l1_0.length l1_0) (hc1_0 : l1_0.length ≤ c1_0) (h : laws_FnExactDangersNow.f k a0_0 l0_1 a0_2 l1_0 a1_1 = some r) :
    Calls Try.prog 8 #[.agg #[.int .i64 a0_0, .slice A0_1 l0_1.length c0_1, .int .i64 a0_2], .agg #[.slice A1_0 l1_0.length c1_0, .bool a1_1]] w fun e w' => e = .returned (.bool r) ∧ Below w.heap.size w w' := by
  have hu24 := Try.underlying24
  have hu27 := Try.underlying27
  have hu35 := Try.underlying35
  have hu39 := Try.underlying39
  have HR0_1 := Aside0.mk hr0_1
  have HC0_1 := Aside0.mk hc0_1
  have HR1_0 := Aside0.mk hr1_0
  have HC1_0 := Aside0.mk hc1_0
  clear hr0_1 hc0_1 hr1_0 hc1_0
  have HB := Aside0.mk (Below.refl w.heap.size w)
  have HT := Aside0.mk (Nat.le_refl w.heap.size)
  have HN := Aside0.mk trivial
  have H := h
  unfold laws_FnExactDangersNow.f at H
  clear h
  obtain ⟨t2, A1_, H⟩ := Option.bind_eq_some_iff.mp H
  have A1 := Aside0.mk A1_
  clear A1_
  (try dsimp only at A1 H)
  by_cases c76 : t2 < 0
  · rw [if_pos c76] at H
    have c76b0 : decide (t2 < 0) = true := decide_eq_true c76
    clear c76
    obtain rfl := Option.some.inj H
    go_enter Try.func8, Try.ntmps8
    try go_wp2_with (first | ((with_reducible refine gate_dst (N := 2) rfl ?_); refine box_event ?hg (N := 2) ?hd (cs := #[.int .i64 a0_0, .slice A0_1 l0_1.length c0_1, .int .i64 a0_2]) (t := 24) ?hr ?_; (case hd => rfl); (case hg => rfl); (case hr => first | (go_simp; done) | (go_simp; rfl)); intro gb1 hg W1 hbox hb; have nn : w.heap.size ≤ gb1 := Nat.le_trans HT.out (Nat.le_of_eq hg.symm); have GE1 := Aside0.mk (Nat.le_trans (below_size HB.out) (Nat.le_of_eq hg.symm)); replace HB := Aside0.mk (below_step HB.out hb); replace HT := Aside0.mk (Nat.le_trans HT.out hb.size); have BK1 := Aside0.mk hbox; replace HT := Aside0.mk (Nat.succ_le_of_lt (blk_lt hbox)); replace HN := Aside0.mk (And.intro nn HN.out); clear hg hbox hb nn) | ((with_reducible refine gate_dst (N := 3) rfl ?_); refine box_event ?hg (N := 3) ?hd (cs := #[.slice A1_0 l1_0.length c1_0, .bool a1_1]) (t := 35) ?hr ?_; (case hd => rfl); (case hg => rfl); (case hr => first | (go_simp; done) | (go_simp; rfl)); intro gb2 hg W2 hbox hb; have nn : gb1.succ ≤ gb2 := Nat.le_trans HT.out (Nat.le_of_eq hg.symm); have GE2 := Aside0.mk (Nat.le_trans (below_size HB.out) (Nat.le_of_eq hg.symm)); replace BK1 := Aside0.mk (blk_below (g := gb1) (o := .cells #[.int .i64 a0_0, .slice A0_1 l0_1.length c0_1, .int .i64 a0_2] 24 (0, 0)) BK1.out hb); replace HB := Aside0.mk (below_step HB.out hb); replace HT := Aside0.mk (Nat.le_trans HT.out hb.size); have BK2 := Aside0.mk hbox; replace HT := Aside0.mk (Nat.succ_le_of_lt (blk_lt hbox)); replace HN := Aside0.mk (And.intro nn HN.out); clear hg hbox hb nn; have cz1_0 : W2.cell? ⟨gb1, 0, none⟩ = some (.int .i64 a0_0) := (blk_cell BK1.out 0).trans rfl; have cz1_1 : W2.cell? ⟨gb1, 1, none⟩ = some (.slice A0_1 l0_1.length c0_1) := (blk_cell BK1.out 1).trans rfl; have cz1_2 : W2.cell? ⟨gb1, 2, none⟩ = some (.int .i64 a0_2) := (blk_cell BK1.out 2).trans rfl) | ((with_reducible refine gate_dst (N := 19) rfl ?_); refine goesL_ (some 19) rfl rfl Try.func12 (by kernel_rfl) rfl #[.agg #[.int .i64 a0_0, .slice A0_1 l0_1.length c0_1, .int .i64 a0_2], .int .i64 1048576] rfl (by (try simp only [List.map_toArray, List.map_cons, List.map_nil]); first | done | rfl) ?_; (with_reducible refine (laws_szKeep.calls k a0_0 _ _ l0_1 a0_2 1048576 t2 _ (Kd.C_below HR0_1.out HB.out) HC0_1.out A1.out).mono ?_); rintro e W3 ⟨rfl, hb⟩; refine ⟨_, rfl, ?_⟩; replace BK1 := Aside0.mk (blk_below (g := gb1) (o := .cells #[.int .i64 a0_0, .slice A0_1 l0_1.length c0_1, .int .i64 a0_2] 24 (0, 0)) BK1.out hb); replace BK2 := Aside0.mk (blk_below (g := gb2) (o := .cells #[.slice A1_0 l1_0.length c1_0, .bool a1_1] 35 (0, 0)) BK2.out hb); replace HB := Aside0.mk (below_step HB.out hb); replace HT := Aside0.mk (Nat.le_trans HT.out hb.size); clear hb; (try clear cz1_0 cz1_1 cz1_2)))
    go_ret
    exact ⟨by first | rfl | (simp; done) | (simp [*]; done), HB.out⟩
  rw [if_neg c76] at H
  have c76b0 : decide (t2 < 0) = false := decide_eq_false c76
  clear c76
  obtain ⟨t4, A3_, H⟩ := Option.bind_eq_some_iff.mp H
  have A3 := Aside0.mk A3_
  clear A3_
  (try dsimp only at A3 H)
  by_cases c77 : t4 < 0
  · rw [if_pos c77] at H
    have c77b0 : decide (t4 < 0) = true := decide_eq_true c77
    clear c77
    obtain rfl := Option.some.inj H
    go_enter Try.func8, Try.ntmps8
    try go_wp2_with (first | ((with_reducible refine gate_dst (N := 2) rfl ?_); refine box_event ?hg (N := 2) ?hd (cs := #[.int .i64 a0_0, .slice A0_1 l0_1.length c0_1, .int .i64 a0_2]) (t := 24) ?hr ?_; (case hd => rfl); (case hg => rfl); (case hr => first | (go_simp; done) | (go_simp; rfl)); intro gb1 hg W4 hbox hb; have nn : w.heap.size ≤ gb1 := Nat.le_trans HT.out (Nat.le_of_eq hg.symm); have GE1 := Aside0.mk (Nat.le_trans (below_size HB.out) (Nat.le_of_eq hg.symm)); replace HB := Aside0.mk (below_step HB.out hb); replace HT := Aside0.mk (Nat.le_trans HT.out hb.size); have BK1 := Aside0.mk hbox; replace HT := Aside0.mk (Nat.succ_le_of_lt (blk_lt hbox)); replace HN := Aside0.mk (And.intro nn HN.out); clear hg hbox hb nn) | ((with_reducible refine gate_dst (N := 3) rfl ?_); refine box_event ?hg (N := 3) ?hd (cs := #[.slice A1_0 l1_0.length c1_0, .bool a1_1]) (t := 35) ?hr ?_; (case hd => rfl); (case hg => rfl); (case hr => first | (go_simp; done) | (go_simp; rfl)); intro gb2 hg W5 hbox hb; have nn : gb1.succ ≤ gb2 := Nat.le_trans HT.out (Nat.le_of_eq hg.symm); have GE2 := Aside0.mk (Nat.le_trans (below_size HB.out) (Nat.le_of_eq hg.symm)); replace BK1 := Aside0.mk (blk_below (g := gb1) (o := .cells #[.int .i64 a0_0, .slice A0_1 l0_1.length c0_1, .int .i64 a0_2] 24 (0, 0)) BK1.out hb); replace HB := Aside0.mk (below_step HB.out hb); replace HT := Aside0.mk (Nat.le_trans HT.out hb.size); have BK2 := Aside0.mk hbox; replace HT := Aside0.mk (Nat.succ_le_of_lt (blk_lt hbox)); replace HN := Aside0.mk (And.intro nn HN.out); clear hg hbox hb nn; have cz1_0 : W5.cell? ⟨gb1, 0, none⟩ = some (.int .i64 a0_0) := (blk_cell BK1.out 0).trans rfl; have cz1_1 : W5.cell? ⟨gb1, 1, none⟩ = some (.slice A0_1 l0_1.length c0_1) := (blk_cell BK1.out 1).trans rfl; have cz1_2 : W5.cell? ⟨gb1, 2, none⟩ = some (.int .i64 a0_2) := (blk_cell BK1.out 2).trans rfl) | ((with_reducible refine gate_dst (N := 19) rfl ?_); refine goesL_ (some 19) rfl rfl Try.func12 (by kernel_rfl) rfl #[.agg #[.int .i64 a0_0, .slice A0_1 l0_1.length c0_1, .int .i64 a0_2], .int .i64 1048576] rfl (by (try simp only [List.map_toArray, List.map_cons, List.map_nil]); first | done | rfl) ?_; (with_reducible refine (laws_szKeep.calls k a0_0 _ _ l0_1 a0_2 1048576 t2 _ (Kd.C_below HR0_1.out HB.out) HC0_1.out A1.out).mono ?_); rintro e W6 ⟨rfl, hb⟩; refine ⟨_, rfl, ?_⟩; replace BK1 := Aside0.mk (blk_below (g := gb1) (o := .cells #[.int .i64 a0_0, .slice A0_1 l0_1.length c0_1, .int .i64 a0_2] 24 (0, 0)) BK1.out hb); replace BK2 := Aside0.mk (blk_below (g := gb2) (o := .cells #[.slice A1_0 l1_0.length c1_0, .bool a1_1] 35 (0, 0)) BK2.out hb); replace HB := Aside0.mk (below_step HB.out hb); replace HT := Aside0.mk (Nat.le_trans HT.out hb.size); clear hb; (try clear cz1_0 cz1_1 cz1_2); have cz2_0 : W6.cell? ⟨gb2, 0, none⟩ = some (.slice A1_0 l1_0.length c1_0) := (blk_cell BK2.out 0).trans rfl; have cz2_1 : W6.cell? ⟨gb2, 1, none⟩ = some (.bool a1_1) := (blk_cell BK2.out 1).trans rfl) | ((with_reducible refine gate_dst (N := 24) rfl ?_); refine goesL_ (some 24) rfl rfl Try.func19 (by kernel_rfl) rfl #[.agg #[.slice A1_0 l1_0.length c1_0, .bool a1_1], .int .i64 t2] rfl (by (try simp only [List.map_toArray, List.map_cons, List.map_nil]); first | done | rfl) ?_; (with_reducible refine (laws_szBank.calls _ _ l1_0 a1_1 t2 t4 _ (Kd.C_below HR1_0.out HB.out) HC1_0.out A3.out).mono ?_); rintro e W7 ⟨rfl, hb⟩; refine ⟨_, rfl, ?_⟩; replace BK1 := Aside0.mk (blk_below (g := gb1) (o := .cells #[.int .i64 a0_0, .slice A0_1 l0_1.length c0_1, .int .i64 a0_2] 24 (0, 0)) BK1.out hb); replace BK2 := Aside0.mk (blk_below (g := gb2) (o := .cells #[.slice A1_0 l1_0.length c1_0, .bool a1_1] 35 (0, 0)) BK2.out hb); replace HB := Aside0.mk (below_step HB.out hb); replace HT := Aside0.mk (Nat.le_trans HT.out hb.size); clear hb; (try clear cz2_0 cz2_1)))
    go_ret
    exact ⟨by first | rfl | (simp; done) | (simp [*]; done), HB.out⟩
  rw [if_neg c77] at H
  have c77b0 : decide (t4 < 0) = false := decide_eq_false c77
  clear c77
  obtain ⟨⟨t6, t7, t8⟩, A5_, H⟩ := Option.bind_eq_some_iff.mp H
  have A5 := Aside0.mk A5_
  clear A5_
  (try dsimp only at A5 H)
  obtain ⟨⟨t11, t12⟩, A10_, H⟩ := Option.bind_eq_some_iff.mp H
  have A10 := Aside0.mk A10_
  clear A10_
  (try dsimp only at A10 H)
  obtain ⟨⟨t15, t16⟩, A14_, H⟩ := Option.bind_eq_some_iff.mp H
  have A14 := Aside0.mk A14_
  clear A14_
  (try dsimp only at A14 H)
  obtain ⟨⟨t19, t20, t21⟩, A18_, H⟩ := Option.bind_eq_some_iff.mp H
  have A18 := Aside0.mk A18_
  clear A18_
  (try dsimp only at A18 H)
  obtain ⟨⟨t24, t25⟩, A23_, H⟩ := Option.bind_eq_some_iff.mp H
  have A23 := Aside0.mk A23_
  clear A23_
  (try dsimp only at A23 H)
  obtain ⟨⟨t28, t29⟩, A27_, H⟩ := Option.bind_eq_some_iff.mp H
  have A27 := Aside0.mk A27_
  clear A27_
  (try dsimp only at A27 H)
  obtain ⟨t32, A31_, H⟩ := Option.bind_eq_some_iff.mp H
  have A31 := Aside0.mk A31_
  clear A31_
  (try dsimp only at A31 H)
  rcases t32 with _ | _
  · rw [if_neg (by decide)] at H; cases H
  rw [if_pos rfl] at H
  by_cases c78 : (t29 != t16) = true
  · rw [if_pos c78] at H; cases H
  rw [if_neg c78] at H
  have c78b0 : (t29 != t16) = false := by simpa using c78
  have c78b1 : decide (t29 = t16) = true := by simpa using c78
  have c78b2 : (t29 == t16) = true := by simpa using c78
  clear c78
  obtain ⟨⟨t34, t35, t36⟩, A33_, H⟩ := Option.bind_eq_some_iff.mp H
  have A33 := Aside0.mk A33_
  clear A33_
  (try dsimp only at A33 H)
  obtain ⟨t39, A38_, H⟩ := Option.bind_eq_some_iff.mp H
  have A38 := Aside0.mk A38_
  clear A38_
  (try dsimp only at A38 H)
  rcases t39 with _ | _
  · rw [if_neg (by decide)] at H; cases H
  rw [if_pos rfl] at H
  obtain ⟨⟨t41, t42⟩, A40_, H⟩ := Option.bind_eq_some_iff.mp H
  have A40 := Aside0.mk A40_
  clear A40_
  (try dsimp only at A40 H)
  obtain ⟨t45, A44_, H⟩ := Option.bind_eq_some_iff.mp H
  have A44 := Aside0.mk A44_
  clear A44_
  (try dsimp only at A44 H)
  rcases t45 with _ | _
  · rw [if_neg (by decide)] at H; cases H
  rw [if_pos rfl] at H
  obtain ⟨⟨t47, t48⟩, A46_, H⟩ := Option.bind_eq_some_iff.mp H
  have A46 := Aside0.mk A46_
  clear A46_
  (try dsimp only at A46 H)
  obtain ⟨⟨t50, t51⟩, A49_, H⟩ := Option.bind_eq_some_iff.mp H
  have A49 := Aside0.mk A49_
  clear A49_
  (try dsimp only at A49 H)
  obtain ⟨t53, A52_, H⟩ := Option.bind_eq_some_iff.mp H
  have A52 := Aside0.mk A52_
  clear A52_
  (try dsimp only at A52 H)
  by_cases c79 : t50 < 0
  · rw [if_pos c79] at H; cases H
  rw [if_neg c79] at H
  have c79b0 : decide (t50 < 0) = false := decide_eq_false c79
  clear c79
  rcases t53 with _ | _
  · rw [if_neg (by decide)] at H; cases H
  rw [if_pos rfl] at H
  by_cases c80 : (t29 != t16) = true
  · rw [if_pos c80] at H; cases H
  rw [if_neg c80] at H
  have c80b0 : (t29 != t16) = false := by simpa using c80
  have c80b1 : decide (t29 = t16) = true := by simpa using c80
  have c80b2 : (t29 == t16) = true := by simpa using c80
  clear c80
  obtain ⟨⟨t55, t56⟩, A54_, H⟩ := Option.bind_eq_some_iff.mp H
  have A54 := Aside0.mk A54_
  clear A54_
  (try dsimp only at A54 H)
  obtain ⟨t58, A57_, H⟩ := Option.bind_eq_some_iff.mp H
  have A57 := Aside0.mk A57_
  clear A57_
  (try dsimp only at A57 H)
  by_cases c81 : t58 < 0
  · rw [if_pos c81] at H; cases H
  rw [if_neg c81] at H
  have c81b0 : decide (t58 < 0) = false := decide_eq_false c81
  clear c81
  by_cases c82 : t58 = t55
  rotate_left
  · rw [if_neg c82] at H; cases H
  rw [if_pos c82] at H
  have c82b0 : (t58 == t55) = true := beq_iff_eq.mpr c82
  have c82b1 : (t58 != t55) = false := bne_eq_false_iff_eq.mpr c82
  clear c82
  obtain ⟨⟨t60, t61, t62⟩, A59_, H⟩ := Option.bind_eq_some_iff.mp H
  have A59 := Aside0.mk A59_
  clear A59_
  (try dsimp only at A59 H)
  obtain ⟨⟨t65, t66⟩, A64_, H⟩ := Option.bind_eq_some_iff.mp H
  have A64 := Aside0.mk A64_
  clear A64_
  (try dsimp only at A64 H)
  obtain ⟨⟨t69, t70⟩, A68_, H⟩ := Option.bind_eq_some_iff.mp H
  have A68 := Aside0.mk A68_
  clear A68_
  (try dsimp only at A68 H)
  obtain ⟨t73, A72_, H⟩ := Option.bind_eq_some_iff.mp H
  have A72 := Aside0.mk A72_
  clear A72_
  (try dsimp only at A72 H)
  rcases t73 with _ | _
  · rw [if_neg (by decide)] at H; cases H
  rw [if_pos rfl] at H
  by_cases c83 : (t70 != t16) = true
  · rw [if_pos c83] at H; cases H
  rw [if_neg c83] at H
  have c83b0 : (t70 != t16) = false := by simpa using c83
  have c83b1 : decide (t70 = t16) = true := by simpa using c83
  have c83b2 : (t70 == t16) = true := by simpa using c83
  clear c83
  obtain ⟨t75, A74_, H⟩ := Option.bind_eq_some_iff.mp H
  have A74 := Aside0.mk A74_
  clear A74_
  (try dsimp only at A74 H)
  by_cases c84 : t75 < 0
  · rw [if_pos c84] at H; cases H
  rw [if_neg c84] at H
  have c84b0 : decide (t75 < 0) = false := decide_eq_false c84
  clear c84
  by_cases c85 : t75 = t55
  rotate_left
  · rw [if_neg c85] at H; cases H
  rw [if_pos c85] at H
  have c85b0 : (t75 == t55) = true := beq_iff_eq.mpr c85
  have c85b1 : (t75 != t55) = false := bne_eq_false_iff_eq.mpr c85
  clear c85
  obtain rfl := Option.some.inj H
  clear H
  go_enter Try.func8, Try.ntmps8
  try go_wp2_with (first | ((with_reducible refine gate_dst (N := 2) rfl ?_); refine box_event ?hg (N := 2) ?hd (cs := #[.int .i64 a0_0, .slice A0_1 l0_1.length c0_1, .int .i64 a0_2]) (t := 24) ?hr ?_; (case hd => rfl); (case hg => rfl); (case hr => first | (go_simp; done) | (go_simp; rfl)); intro gb1 hg W8 hbox hb; have nn : w.heap.size ≤ gb1 := Nat.le_trans HT.out (Nat.le_of_eq hg.symm); have GE1 := Aside0.mk (Nat.le_trans (below_size HB.out) (Nat.le_of_eq hg.symm)); replace HB := Aside0.mk (below_step HB.out hb); replace HT := Aside0.mk (Nat.le_trans HT.out hb.size); have BK1 := Aside0.mk hbox; replace HT := Aside0.mk (Nat.succ_le_of_lt (blk_lt hbox)); replace HN := Aside0.mk (And.intro nn HN.out); clear hg hbox hb nn) | ((with_reducible refine gate_dst (N := 3) rfl ?_); refine box_event ?hg (N := 3) ?hd (cs := #[.slice A1_0 l1_0.length c1_0, .bool a1_1]) (t := 35) ?hr ?_; (case hd => rfl); (case hg => rfl); (case hr => first | (go_simp; done) | (go_simp; rfl)); intro gb2 hg W9 hbox hb; have nn : gb1.succ ≤ gb2 := Nat.le_trans HT.out (Nat.le_of_eq hg.symm); have GE2 := Aside0.mk (Nat.le_trans (below_size HB.out) (Nat.le_of_eq hg.symm)); replace BK1 := Aside0.mk (blk_below (g := gb1) (o := .cells #[.int .i64 a0_0, .slice A0_1 l0_1.length c0_1, .int .i64 a0_2] 24 (0, 0)) BK1.out hb); replace HB := Aside0.mk (below_step HB.out hb); replace HT := Aside0.mk (Nat.le_trans HT.out hb.size); have BK2 := Aside0.mk hbox; replace HT := Aside0.mk (Nat.succ_le_of_lt (blk_lt hbox)); replace HN := Aside0.mk (And.intro nn HN.out); clear hg hbox hb nn; have cz1_0 : W9.cell? ⟨gb1, 0, none⟩ = some (.int .i64 a0_0) := (blk_cell BK1.out 0).trans rfl; have cz1_1 : W9.cell? ⟨gb1, 1, none⟩ = some (.slice A0_1 l0_1.length c0_1) := (blk_cell BK1.out 1).trans rfl; have cz1_2 : W9.cell? ⟨gb1, 2, none⟩ = some (.int .i64 a0_2) := (blk_cell BK1.out 2).trans rfl) | ((with_reducible refine gate_dst (N := 19) rfl ?_); refine goesL_ (some 19) rfl rfl Try.func12 (by kernel_rfl) rfl #[.agg #[.int .i64 a0_0, .slice A0_1 l0_1.length c0_1, .int .i64 a0_2], .int .i64 1048576] rfl (by (try simp only [List.map_toArray, List.map_cons, List.map_nil]); first | done | rfl) ?_; (with_reducible refine (laws_szKeep.calls k a0_0 _ _ l0_1 a0_2 1048576 t2 _ (Kd.C_below HR0_1.out HB.out) HC0_1.out A1.out).mono ?_); rintro e W10 ⟨rfl, hb⟩; refine ⟨_, rfl, ?_⟩; replace BK1 := Aside0.mk (blk_below (g := gb1) (o := .cells #[.int .i64 a0_0, .slice A0_1 l0_1.length c0_1, .int .i64 a0_2] 24 (0, 0)) BK1.out hb); replace BK2 := Aside0.mk (blk_below (g := gb2) (o := .cells #[.slice A1_0 l1_0.length c1_0, .bool a1_1] 35 (0, 0)) BK2.out hb); replace HB := Aside0.mk (below_step HB.out hb); replace HT := Aside0.mk (Nat.le_trans HT.out hb.size); clear hb; (try clear cz1_0 cz1_1 cz1_2); have cz2_0 : W10.cell? ⟨gb2, 0, none⟩ = some (.slice A1_0 l1_0.length c1_0) := (blk_cell BK2.out 0).trans rfl; have cz2_1 : W10.cell? ⟨gb2, 1, none⟩ = some (.bool a1_1) := (blk_cell BK2.out 1).trans rfl) | ((with_reducible refine gate_dst (N := 24) rfl ?_); refine goesL_ (some 24) rfl rfl Try.func19 (by kernel_rfl) rfl #[.agg #[.slice A1_0 l1_0.length c1_0, .bool a1_1], .int .i64 t2] rfl (by (try simp only [List.map_toArray, List.map_cons, List.map_nil]); first | done | rfl) ?_; (with_reducible refine (laws_szBank.calls _ _ l1_0 a1_1 t2 t4 _ (Kd.C_below HR1_0.out HB.out) HC1_0.out A3.out).mono ?_); rintro e W11 ⟨rfl, hb⟩; refine ⟨_, rfl, ?_⟩; replace BK1 := Aside0.mk (blk_below (g := gb1) (o := .cells #[.int .i64 a0_0, .slice A0_1 l0_1.length c0_1, .int .i64 a0_2] 24 (0, 0)) BK1.out hb); replace BK2 := Aside0.mk (blk_below (g := gb2) (o := .cells #[.slice A1_0 l1_0.length c1_0, .bool a1_1] 35 (0, 0)) BK2.out hb); replace HB := Aside0.mk (below_step HB.out hb); replace HT := Aside0.mk (Nat.le_trans HT.out hb.size); clear hb; (try clear cz2_0 cz2_1)))
  have hb : Below W11.heap.size W11 W11.drew := below_drew (Below.refl _ _)
  replace BK1 := Aside0.mk (blk_below (g := gb1) (o := .cells #[.int .i64 a0_0, .slice A0_1 l0_1.length c0_1, .int .i64 a0_2] 24 (0, 0)) BK1.out hb)
  replace BK2 := Aside0.mk (blk_below (g := gb2) (o := .cells #[.slice A1_0 l1_0.length c1_0, .bool a1_1] 35 (0, 0)) BK2.out hb)
  replace HB := Aside0.mk (below_step HB.out hb)
  replace HT := Aside0.mk (Nat.le_trans HT.out hb.size)
  clear hb
  refine start_ (n := 10) (S := fun w' => w'.cell? ⟨gb1, 0, none⟩ = some (.int .i64 a0_0) ∧ w'.cell? ⟨gb1, 1, none⟩ = some (.slice A0_1 l0_1.length c0_1) ∧ w'.cell? ⟨gb1, 2, none⟩ = some (.int .i64 a0_2) ∧ w'.cell? ⟨gb2, 0, none⟩ = some (.slice A1_0 l1_0.length c1_0) ∧ w'.cell? ⟨gb2, 1, none⟩ = some (.bool a1_1)) (ds := []) #[false, false, false, false, false, false, false, false, false, false] (by kernel_rfl) rfl rfl ⟨(blk_cell BK1.out 0).trans rfl, (blk_cell BK1.out 1).trans rfl, (blk_cell BK1.out 2).trans rfl, (blk_cell BK2.out 0).trans rfl, (blk_cell BK2.out 1).trans rfl⟩ (fun hHeld => ?_)
  generalize W11.drew = W12 at BK1 BK2 HB HT hHeld ⊢
  refine take_ (i := 0) (N := some 28) (v := ?_) (a' := ?_) #[true, false, false, false, false, false, false, false, false, false] rfl rfl (by kernel_rfl) (fun _ _ _ h => h) (Or.inl ⟨by rfl, ?_⟩) hHeld ?_ ?_
  rotate_left
  · rintro w' ⟨s0, s1, s2, s3, s4⟩
    go_simp
    with_reducible rfl
  rotate_left
  · simp only [Act.put, List.setIfInBounds_toArray, List.set_cons_zero, List.set_cons_succ, i64_w, i32_w]
    rfl
  refine take_ (i := 2) (N := some 30) (v := ?_) (a' := ?_) #[true, false, true, false, false, false, false, false, false, false] rfl rfl (by kernel_rfl) (fun _ _ _ h => h) (Or.inl ⟨by rfl, ?_⟩) hHeld ?_ ?_
  rotate_left
  · rintro w' ⟨s0, s1, s2, s3, s4⟩
    go_simp
    with_reducible rfl
  rotate_left
  · simp only [Act.put, List.setIfInBounds_toArray, List.set_cons_zero, List.set_cons_succ, i64_w, i32_w]
    rfl
  refine one_ (i := 1) (N := some 29) #[true, true, true, false, false, false, false, false, false, false] rfl rfl (by kernel_rfl) (by decide) (fun K hK => ?_)
  refine goes_ Try.func14 (by kernel_rfl) rfl #[.agg #[.int .i64 a0_0, .slice A0_1 l0_1.length c0_1, .int .i64 a0_2]] (by rfl) rfl rfl (by (try simp only [List.map_toArray, List.map_cons, List.map_nil]); first | done | rfl) ?_
  with_reducible refine (laws_toKeep.calls k a0_0 _ _ l0_1 a0_2 t6 t7 t8 _ (Kd.C_below HR0_1.out HB.out) HC0_1.out A5.out).mono ?_
  rintro e W13 ⟨v9, rfl, ho9, hb⟩
  refine ⟨_, rfl, ?_⟩
  obtain ⟨B9, d9, e_⟩ := Kd.S_slice ho9
  subst e_
  obtain ⟨lo9, hi9, nn, ht_, hO9⟩ := laws_FnExactDangersNow.newS ho9 HT.out (below_size HB.out) hb.size
  replace BK1 := Aside0.mk (blk_below (g := gb1) (o := .cells #[.int .i64 a0_0, .slice A0_1 l0_1.length c0_1, .int .i64 a0_2] 24 (0, 0)) BK1.out hb)
  replace BK2 := Aside0.mk (blk_below (g := gb2) (o := .cells #[.slice A1_0 l1_0.length c1_0, .bool a1_1] 35 (0, 0)) BK2.out hb)
  replace HB := Aside0.mk (below_step HB.out hb)
  replace HT := Aside0.mk (Nat.le_trans HT.out hb.size)
  have HO9 := Aside0.mk hO9
  replace HT := Aside0.mk ht_
  replace HN := Aside0.mk (And.intro nn HN.out)
  clear ho9 hO9 nn ht_
  clear hb
  refine hK.out _ _ ⟨(blk_cell BK1.out 0).trans rfl, (blk_cell BK1.out 1).trans rfl, (blk_cell BK1.out 2).trans rfl, (blk_cell BK2.out 0).trans rfl, (blk_cell BK2.out 1).trans rfl⟩ (fun hHeld => ?_)
  clear hK K
  refine norm_ (a' := ?_) ?_ ?_
  rotate_left
  · show Act.put _ (some 29) _ = _
    simp only [Act.put, List.setIfInBounds_toArray, List.set_cons_zero, List.set_cons_succ, i64_w, i32_w]
    rfl
  refine one_ (i := 3) (N := some 31) #[true, true, true, true, false, false, false, false, false, false] rfl rfl (by kernel_rfl) (by decide) (fun K hK => ?_)
  refine goes_ Try.func21 (by kernel_rfl) rfl #[.agg #[.slice A1_0 l1_0.length c1_0, .bool a1_1]] (by rfl) rfl rfl (by (try simp only [List.map_toArray, List.map_cons, List.map_nil]); first | done | rfl) ?_
  with_reducible refine (laws_toBank.calls k _ _ l1_0 a1_1 t11 t12 _ (Kd.C_below HR1_0.out HB.out) HC1_0.out A10.out).mono ?_
  rintro e W14 ⟨v13, rfl, ho13, hb⟩
  refine ⟨_, rfl, ?_⟩
  obtain ⟨B13, d13, e_⟩ := Kd.R_slice ho13
  subst e_
  obtain ⟨lo13, hi13, nn, ht_, hO13⟩ := laws_FnExactDangersNow.newR ho13 HT.out (below_size HB.out) hb.size
  replace HO9 := Aside0.mk (Kd.S_below HO9.out hb)
  replace BK1 := Aside0.mk (blk_below (g := gb1) (o := .cells #[.int .i64 a0_0, .slice A0_1 l0_1.length c0_1, .int .i64 a0_2] 24 (0, 0)) BK1.out hb)
  replace BK2 := Aside0.mk (blk_below (g := gb2) (o := .cells #[.slice A1_0 l1_0.length c1_0, .bool a1_1] 35 (0, 0)) BK2.out hb)
  replace HB := Aside0.mk (below_step HB.out hb)
  replace HT := Aside0.mk (Nat.le_trans HT.out hb.size)
  have HO13 := Aside0.mk hO13
  replace HT := Aside0.mk ht_
  replace HN := Aside0.mk (And.intro nn HN.out)
  clear ho13 hO13 nn ht_
  clear hb
  refine hK.out _ _ ⟨(blk_cell BK1.out 0).trans rfl, (blk_cell BK1.out 1).trans rfl, (blk_cell BK1.out 2).trans rfl, (blk_cell BK2.out 0).trans rfl, (blk_cell BK2.out 1).trans rfl⟩ (fun hHeld => ?_)
  clear hK K
  refine norm_ (a' := ?_) ?_ ?_
  rotate_left
  · show Act.put _ (some 31) _ = _
    simp only [Act.put, List.setIfInBounds_toArray, List.set_cons_zero, List.set_cons_succ, i64_w, i32_w]
    rfl
  refine one_ (i := 4) (N := some 32) #[true, true, true, true, true, false, false, false, false, false] rfl rfl (by kernel_rfl) (by decide) (fun K hK => ?_)
  refine goes_ Try.func31 (by kernel_rfl) rfl #[.agg #[.int .i64 t6, .slice B9 t7.length d9, .int .i64 t8], .agg #[.slice B13 t11.length d13, .bool t12]] (by rfl) rfl rfl (by (try simp only [List.map_toArray, List.map_cons, List.map_nil]); first | done | rfl) ?_
  with_reducible refine (spec_DangersNow.calls k t6 _ _ t7 t8 _ _ t11 t12 t15 t16 _ (Kd.R_reads' (Kd.S_R HO9.out)).2.2 (Kd.R_reads' (Kd.S_R HO9.out)).2.1 (Kd.R_reads' HO13.out).2.2 (Kd.R_reads' HO13.out).2.1 A14.out).mono ?_
  rintro e W15 ⟨v17, rfl, ho17, hb⟩
  refine ⟨_, rfl, ?_⟩
  obtain ⟨B17, d17, e_⟩ := Kd.S_slice ho17
  subst e_
  obtain ⟨lo17, hi17, nn, ht_, hO17⟩ := laws_FnExactDangersNow.newS ho17 HT.out (below_size HB.out) hb.size
  replace HO9 := Aside0.mk (Kd.S_below HO9.out hb)
  replace HO13 := Aside0.mk (Kd.R_below HO13.out hb)
  replace BK1 := Aside0.mk (blk_below (g := gb1) (o := .cells #[.int .i64 a0_0, .slice A0_1 l0_1.length c0_1, .int .i64 a0_2] 24 (0, 0)) BK1.out hb)
  replace BK2 := Aside0.mk (blk_below (g := gb2) (o := .cells #[.slice A1_0 l1_0.length c1_0, .bool a1_1] 35 (0, 0)) BK2.out hb)
  replace HB := Aside0.mk (below_step HB.out hb)
  replace HT := Aside0.mk (Nat.le_trans HT.out hb.size)
  have HO17 := Aside0.mk hO17
  replace HT := Aside0.mk ht_
  replace HN := Aside0.mk (And.intro nn HN.out)
  clear ho17 hO17 nn ht_
  clear hb
  refine hK.out _ _ ⟨(blk_cell BK1.out 0).trans rfl, (blk_cell BK1.out 1).trans rfl, (blk_cell BK1.out 2).trans rfl, (blk_cell BK2.out 0).trans rfl, (blk_cell BK2.out 1).trans rfl⟩ (fun hHeld => ?_)
  clear hK K
  refine norm_ (a' := ?_) ?_ ?_
  rotate_left
  · show Act.put _ (some 32) _ = _
    simp only [Act.put, List.setIfInBounds_toArray, List.set_cons_zero, List.set_cons_succ, i64_w, i32_w]
    rfl
  refine pure_ (i := 5) (N := some 27) (v := ?_) (a' := ?_) #[true, true, true, true, true, true, false, false, false, false] rfl rfl (by kernel_rfl) (fun _ _ _ h => h) (Or.inl ⟨by rfl, ?_⟩) ?_ ?_
  rotate_left
  · intro w'
    go_simp
    with_reducible rfl
  rotate_left
  · simp only [Act.put, List.setIfInBounds_toArray, List.set_cons_zero, List.set_cons_succ, i64_w, i32_w]
    rfl
  refine pure_ (i := 6) (N := some 33) (v := ?_) (a' := ?_) #[true, true, true, true, true, true, true, false, false, false] rfl rfl (by kernel_rfl) (fun _ _ _ h => h) (Or.inl ⟨by rfl, ?_⟩) ?_ ?_
  rotate_left
  · intro w'
    go_simp
    with_reducible rfl
  rotate_left
  · simp only [Act.put, List.setIfInBounds_toArray, List.set_cons_zero, List.set_cons_succ, i64_w, i32_w]
    rfl
  refine pure_ (i := 7) (N := some 34) (v := ?_) (a' := ?_) #[true, true, true, true, true, true, true, true, false, false] rfl rfl (by kernel_rfl) (fun _ _ _ h => h) (Or.inl ⟨by rfl, ?_⟩) ?_ ?_
  rotate_left
  · intro w'
    go_simp
    with_reducible rfl
  rotate_left
  · simp only [Act.put, List.setIfInBounds_toArray, List.set_cons_zero, List.set_cons_succ, i64_w, i32_w]
    rfl
  refine pure_ (i := 8) (N := some 6) (v := ?_) (a' := ?_) #[true, true, true, true, true, true, true, true, true, false] rfl rfl (by kernel_rfl) (fun _ _ _ h => h) (Or.inl ⟨by rfl, ?_⟩) ?_ ?_
  rotate_left
  · intro w'
    go_simp
    with_reducible rfl
  rotate_left
  · simp only [Act.put, List.setIfInBounds_toArray, List.set_cons_zero, List.set_cons_succ, i64_w, i32_w]
    rfl
  refine pure_ (i := 9) (N := some 7) (v := ?_) (a' := ?_) #[true, true, true, true, true, true, true, true, true, true] rfl rfl (by kernel_rfl) (fun _ _ _ h => h) (Or.inl ⟨by rfl, ?_⟩) ?_ ?_
  rotate_left
  · intro w'
    go_simp
    with_reducible rfl
  rotate_left
  · simp only [Act.put, List.setIfInBounds_toArray, List.set_cons_zero, List.set_cons_succ, i64_w, i32_w]
    rfl
  refine done_ (by kernel_rfl) ?_
  have cz1_0 : W15.cell? ⟨gb1, 0, none⟩ = some (.int .i64 a0_0) := (blk_cell BK1.out 0).trans rfl
  have cz1_1 : W15.cell? ⟨gb1, 1, none⟩ = some (.slice A0_1 l0_1.length c0_1) := (blk_cell BK1.out 1).trans rfl
  have cz1_2 : W15.cell? ⟨gb1, 2, none⟩ = some (.int .i64 a0_2) := (blk_cell BK1.out 2).trans rfl
  try go_wp2_with (first | ((with_reducible refine gate_dst (N := 36) rfl ?_); refine goesL_ (some 36) rfl rfl Try.func14 (by kernel_rfl) rfl #[.agg #[.int .i64 a0_0, .slice A0_1 l0_1.length c0_1, .int .i64 a0_2]] rfl (by (try simp only [List.map_toArray, List.map_cons, List.map_nil]); first | done | rfl) ?_; (with_reducible refine (laws_toKeep.calls k a0_0 _ _ l0_1 a0_2 t19 t20 t21 _ (Kd.C_below HR0_1.out HB.out) HC0_1.out A18.out).mono ?_); rintro e W16 ⟨v22, rfl, ho22, hb⟩; refine ⟨_, rfl, ?_⟩; obtain ⟨B22, d22, e_⟩ := Kd.S_slice ho22; subst e_; obtain ⟨lo22, hi22, nn, ht_, hO22⟩ := laws_FnExactDangersNow.newS ho22 HT.out (below_size HB.out) hb.size; replace HO9 := Aside0.mk (Kd.S_below HO9.out hb); replace HO13 := Aside0.mk (Kd.R_below HO13.out hb); replace HO17 := Aside0.mk (Kd.S_below HO17.out hb); replace BK1 := Aside0.mk (blk_below (g := gb1) (o := .cells #[.int .i64 a0_0, .slice A0_1 l0_1.length c0_1, .int .i64 a0_2] 24 (0, 0)) BK1.out hb); replace BK2 := Aside0.mk (blk_below (g := gb2) (o := .cells #[.slice A1_0 l1_0.length c1_0, .bool a1_1] 35 (0, 0)) BK2.out hb); replace HB := Aside0.mk (below_step HB.out hb); replace HT := Aside0.mk (Nat.le_trans HT.out hb.size); have HO22 := Aside0.mk hO22; replace HT := Aside0.mk ht_; replace HN := Aside0.mk (And.intro nn HN.out); clear ho22 hO22 nn ht_; clear hb; (try clear cz1_0 cz1_1 cz1_2)) | ((with_reducible refine gate_dst (N := 8) rfl ?_); refine box_event ?hg (N := 8) ?hd (cs := #[.int .i64 0, .slice none 0 0, .int .i64 0]) (t := 27) ?hr ?_; (case hd => rfl); (case hg => rfl); (case hr => first | (go_simp; done) | (go_simp; rfl)); intro gb3 hg W17 hbox hb; have nn : hi22 ≤ gb3 := Nat.le_trans HT.out (Nat.le_of_eq hg.symm); have GE3 := Aside0.mk (Nat.le_trans (below_size HB.out) (Nat.le_of_eq hg.symm)); replace HO9 := Aside0.mk (Kd.S_below HO9.out hb); replace HO13 := Aside0.mk (Kd.R_below HO13.out hb); replace HO17 := Aside0.mk (Kd.S_below HO17.out hb); replace HO22 := Aside0.mk (Kd.S_below HO22.out hb); replace BK1 := Aside0.mk (blk_below (g := gb1) (o := .cells #[.int .i64 a0_0, .slice A0_1 l0_1.length c0_1, .int .i64 a0_2] 24 (0, 0)) BK1.out hb); replace BK2 := Aside0.mk (blk_below (g := gb2) (o := .cells #[.slice A1_0 l1_0.length c1_0, .bool a1_1] 35 (0, 0)) BK2.out hb); replace HB := Aside0.mk (below_step HB.out hb); replace HT := Aside0.mk (Nat.le_trans HT.out hb.size); have BK3 := Aside0.mk hbox; replace HT := Aside0.mk (Nat.succ_le_of_lt (blk_lt hbox)); replace HN := Aside0.mk (And.intro nn HN.out); clear hg hbox hb nn) | ((with_reducible refine gate_store (t := 27) (p := 8) rfl ?_); refine laws_FnExactDangersNow.store rfl rfl rfl gb3 27 #[.int .i64 0, .slice none 0 0, .int .i64 0] (.agg #[.int .i64 t19, .slice B22 t20.length d22, .int .i64 t21]) [.int .i64 t19, .slice B22 t20.length d22, .int .i64 t21] rfl rfl BK3.out rfl (by kernel_rfl) rfl (by intro q_ hq_; simp only [List.mem_cons, List.not_mem_nil, or_false] at hq_; rcases hq_ with rfl | rfl | rfl <;> rfl) ?_; intro W18 hbx hg; replace HO9 := Aside0.mk (laws_FnExactDangersNow.grownS HO9.out hg (by have hn_ := HN.out; omega)); replace HO13 := Aside0.mk (laws_FnExactDangersNow.grownR HO13.out hg (by have hn_ := HN.out; omega)); replace HO17 := Aside0.mk (laws_FnExactDangersNow.grownS HO17.out hg (by have hn_ := HN.out; omega)); replace HO22 := Aside0.mk (laws_FnExactDangersNow.grownS HO22.out hg (by have hn_ := HN.out; omega)); replace BK1 := Aside0.mk (laws_FnExactDangersNow.grownB BK1.out hg (by have hn_ := HN.out; omega)); replace BK2 := Aside0.mk (laws_FnExactDangersNow.grownB BK2.out hg (by have hn_ := HN.out; omega)); replace HB := Aside0.mk (Below.grown HB.out hg (below_size HB.out) (fun k_ hk_ => by injection hk_ with hk_; subst hk_; exact GE3.out)); replace HT := Aside0.mk (Nat.le_trans HT.out hg.size); replace BK3 := Aside0.mk hbx; clear hbx hg; have cz2_0 : W18.cell? ⟨gb2, 0, none⟩ = some (.slice A1_0 l1_0.length c1_0) := (blk_cell BK2.out 0).trans rfl; have cz2_1 : W18.cell? ⟨gb2, 1, none⟩ = some (.bool a1_1) := (blk_cell BK2.out 1).trans rfl) | ((with_reducible refine gate_dst (N := 38) rfl ?_); refine goesL_ (some 38) rfl rfl Try.func21 (by kernel_rfl) rfl #[.agg #[.slice A1_0 l1_0.length c1_0, .bool a1_1]] rfl (by (try simp only [List.map_toArray, List.map_cons, List.map_nil]); first | done | rfl) ?_; (with_reducible refine (laws_toBank.calls k _ _ l1_0 a1_1 t24 t25 _ (Kd.C_below HR1_0.out HB.out) HC1_0.out A23.out).mono ?_); rintro e W19 ⟨v26, rfl, ho26, hb⟩; refine ⟨_, rfl, ?_⟩; obtain ⟨B26, d26, e_⟩ := Kd.R_slice ho26; subst e_; obtain ⟨lo26, hi26, nn, ht_, hO26⟩ := laws_FnExactDangersNow.newR ho26 HT.out (below_size HB.out) hb.size; replace HO9 := Aside0.mk (Kd.S_below HO9.out hb); replace HO13 := Aside0.mk (Kd.R_below HO13.out hb); replace HO17 := Aside0.mk (Kd.S_below HO17.out hb); replace HO22 := Aside0.mk (Kd.S_below HO22.out hb); replace BK1 := Aside0.mk (blk_below (g := gb1) (o := .cells #[.int .i64 a0_0, .slice A0_1 l0_1.length c0_1, .int .i64 a0_2] 24 (0, 0)) BK1.out hb); replace BK2 := Aside0.mk (blk_below (g := gb2) (o := .cells #[.slice A1_0 l1_0.length c1_0, .bool a1_1] 35 (0, 0)) BK2.out hb); replace BK3 := Aside0.mk (blk_below (g := gb3) (o := .cells #[.int .i64 t19, .slice B22 t20.length d22, .int .i64 t21] 27 (0, 0)) BK3.out hb); replace HB := Aside0.mk (below_step HB.out hb); replace HT := Aside0.mk (Nat.le_trans HT.out hb.size); have HO26 := Aside0.mk hO26; replace HT := Aside0.mk ht_; replace HN := Aside0.mk (And.intro nn HN.out); clear ho26 hO26 nn ht_; clear hb; (try clear cz2_0 cz2_1)) | ((with_reducible refine gate_dst (N := 9) rfl ?_); refine box_event ?hg (N := 9) ?hd (cs := #[.slice none 0 0, .bool false]) (t := 39) ?hr ?_; (case hd => rfl); (case hg => rfl); (case hr => first | (go_simp; done) | (go_simp; rfl)); intro gb4 hg W20 hbox hb; have nn : hi26 ≤ gb4 := Nat.le_trans HT.out (Nat.le_of_eq hg.symm); have GE4 := Aside0.mk (Nat.le_trans (below_size HB.out) (Nat.le_of_eq hg.symm)); replace HO9 := Aside0.mk (Kd.S_below HO9.out hb); replace HO13 := Aside0.mk (Kd.R_below HO13.out hb); replace HO17 := Aside0.mk (Kd.S_below HO17.out hb); replace HO22 := Aside0.mk (Kd.S_below HO22.out hb); replace HO26 := Aside0.mk (Kd.R_below HO26.out hb); replace BK1 := Aside0.mk (blk_below (g := gb1) (o := .cells #[.int .i64 a0_0, .slice A0_1 l0_1.length c0_1, .int .i64 a0_2] 24 (0, 0)) BK1.out hb); replace BK2 := Aside0.mk (blk_below (g := gb2) (o := .cells #[.slice A1_0 l1_0.length c1_0, .bool a1_1] 35 (0, 0)) BK2.out hb); replace BK3 := Aside0.mk (blk_below (g := gb3) (o := .cells #[.int .i64 t19, .slice B22 t20.length d22, .int .i64 t21] 27 (0, 0)) BK3.out hb); replace HB := Aside0.mk (below_step HB.out hb); replace HT := Aside0.mk (Nat.le_trans HT.out hb.size); have BK4 := Aside0.mk hbox; replace HT := Aside0.mk (Nat.succ_le_of_lt (blk_lt hbox)); replace HN := Aside0.mk (And.intro nn HN.out); clear hg hbox hb nn) | ((with_reducible refine gate_store (t := 39) (p := 9) rfl ?_); refine laws_FnExactDangersNow.store rfl rfl rfl gb4 39 #[.slice none 0 0, .bool false] (.agg #[.slice B26 t24.length d26, .bool t25]) [.slice B26 t24.length d26, .bool t25] rfl rfl BK4.out rfl (by kernel_rfl) rfl (by intro q_ hq_; simp only [List.mem_cons, List.not_mem_nil, or_false] at hq_; rcases hq_ with rfl | rfl <;> rfl) ?_; intro W21 hbx hg; replace HO9 := Aside0.mk (laws_FnExactDangersNow.grownS HO9.out hg (by have hn_ := HN.out; omega)); replace HO13 := Aside0.mk (laws_FnExactDangersNow.grownR HO13.out hg (by have hn_ := HN.out; omega)); replace HO17 := Aside0.mk (laws_FnExactDangersNow.grownS HO17.out hg (by have hn_ := HN.out; omega)); replace HO22 := Aside0.mk (laws_FnExactDangersNow.grownS HO22.out hg (by have hn_ := HN.out; omega)); replace HO26 := Aside0.mk (laws_FnExactDangersNow.grownR HO26.out hg (by have hn_ := HN.out; omega)); replace BK1 := Aside0.mk (laws_FnExactDangersNow.grownB BK1.out hg (by have hn_ := HN.out; omega)); replace BK2 := Aside0.mk (laws_FnExactDangersNow.grownB BK2.out hg (by have hn_ := HN.out; omega)); replace BK3 := Aside0.mk (laws_FnExactDangersNow.grownB BK3.out hg (by have hn_ := HN.out; omega)); replace HB := Aside0.mk (Below.grown HB.out hg (below_size HB.out) (fun k_ hk_ => by injection hk_ with hk_; subst hk_; exact GE4.out)); replace HT := Aside0.mk (Nat.le_trans HT.out hg.size); replace BK4 := Aside0.mk hbx; clear hbx hg; have cz3_0 : W21.cell? ⟨gb3, 0, none⟩ = some (.int .i64 t19) := (blk_cell BK3.out 0).trans rfl; have cz3_1 : W21.cell? ⟨gb3, 1, none⟩ = some (.slice B22 t20.length d22) := (blk_cell BK3.out 1).trans rfl; have cz3_2 : W21.cell? ⟨gb3, 2, none⟩ = some (.int .i64 t21) := (blk_cell BK3.out 2).trans rfl; have cz4_0 : W21.cell? ⟨gb4, 0, none⟩ = some (.slice B26 t24.length d26) := (blk_cell BK4.out 0).trans rfl; have cz4_1 : W21.cell? ⟨gb4, 1, none⟩ = some (.bool t25) := (blk_cell BK4.out 1).trans rfl) | ((with_reducible refine gate_dst (N := 42) rfl ?_); refine goesL_ (some 42) rfl rfl Try.func32 (by kernel_rfl) rfl #[.agg #[.int .i64 t19, .slice B22 t20.length d22, .int .i64 t21], .agg #[.slice B26 t24.length d26, .bool t25]] rfl (by (try simp only [List.map_toArray, List.map_cons, List.map_nil]); first | done | rfl) ?_; (with_reducible refine (impl_DangersNow.calls k t19 _ _ t20 t21 _ _ t24 t25 t28 t29 _ (Kd.R_reads' (Kd.S_R HO22.out)).2.2 (Kd.R_reads' (Kd.S_R HO22.out)).2.1 (Kd.R_reads' HO26.out).2.2 (Kd.R_reads' HO26.out).2.1 A27.out).mono ?_); rintro e W22 ⟨v30, rfl, ho30, hb⟩; refine ⟨_, rfl, ?_⟩; obtain ⟨B30, d30, e_⟩ := Kd.S_slice ho30; subst e_; obtain ⟨lo30, hi30, nn, ht_, hO30⟩ := laws_FnExactDangersNow.newS ho30 HT.out (below_size HB.out) hb.size; replace HO9 := Aside0.mk (Kd.S_below HO9.out hb); replace HO13 := Aside0.mk (Kd.R_below HO13.out hb); replace HO17 := Aside0.mk (Kd.S_below HO17.out hb); replace HO22 := Aside0.mk (Kd.S_below HO22.out hb); replace HO26 := Aside0.mk (Kd.R_below HO26.out hb); replace BK1 := Aside0.mk (blk_below (g := gb1) (o := .cells #[.int .i64 a0_0, .slice A0_1 l0_1.length c0_1, .int .i64 a0_2] 24 (0, 0)) BK1.out hb); replace BK2 := Aside0.mk (blk_below (g := gb2) (o := .cells #[.slice A1_0 l1_0.length c1_0, .bool a1_1] 35 (0, 0)) BK2.out hb); replace BK3 := Aside0.mk (blk_below (g := gb3) (o := .cells #[.int .i64 t19, .slice B22 t20.length d22, .int .i64 t21] 27 (0, 0)) BK3.out hb); replace BK4 := Aside0.mk (blk_below (g := gb4) (o := .cells #[.slice B26 t24.length d26, .bool t25] 39 (0, 0)) BK4.out hb); replace HB := Aside0.mk (below_step HB.out hb); replace HT := Aside0.mk (Nat.le_trans HT.out hb.size); have HO30 := Aside0.mk hO30; replace HT := Aside0.mk ht_; replace HN := Aside0.mk (And.intro nn HN.out); clear ho30 hO30 nn ht_; clear hb; (try clear cz3_0 cz3_1 cz3_2 cz4_0 cz4_1)) | ((with_reducible refine gate_dst (N := 47) rfl ?_); refine goesL_ (some 47) rfl rfl Try.func33 (by kernel_rfl) rfl #[.slice B30 t28.length d30, .slice B17 t15.length d17] rfl (by (try simp only [List.map_toArray, List.map_cons, List.map_nil]); first | done | rfl) ?_; (with_reducible refine (laws_eqIntSS.calls k _ _ t28 _ _ t15 true _ (Kd.R_reads' (Kd.S_R HO30.out)).2.2 (Kd.R_reads' (Kd.S_R HO30.out)).2.1 (Kd.R_reads' (Kd.S_R HO17.out)).2.2 (Kd.R_reads' (Kd.S_R HO17.out)).2.1 A31.out).mono ?_); rintro e W23 ⟨rfl, hd⟩; have hb := hd.below; clear hd; refine ⟨_, rfl, ?_⟩; replace HO9 := Aside0.mk (Kd.S_below HO9.out hb); replace HO13 := Aside0.mk (Kd.R_below HO13.out hb); replace HO17 := Aside0.mk (Kd.S_below HO17.out hb); replace HO22 := Aside0.mk (Kd.S_below HO22.out hb); replace HO26 := Aside0.mk (Kd.R_below HO26.out hb); replace HO30 := Aside0.mk (Kd.S_below HO30.out hb); replace BK1 := Aside0.mk (blk_below (g := gb1) (o := .cells #[.int .i64 a0_0, .slice A0_1 l0_1.length c0_1, .int .i64 a0_2] 24 (0, 0)) BK1.out hb); replace BK2 := Aside0.mk (blk_below (g := gb2) (o := .cells #[.slice A1_0 l1_0.length c1_0, .bool a1_1] 35 (0, 0)) BK2.out hb); replace BK3 := Aside0.mk (blk_below (g := gb3) (o := .cells #[.int .i64 t19, .slice B22 t20.length d22, .int .i64 t21] 27 (0, 0)) BK3.out hb); replace BK4 := Aside0.mk (blk_below (g := gb4) (o := .cells #[.slice B26 t24.length d26, .bool t25] 39 (0, 0)) BK4.out hb); replace HB := Aside0.mk (below_step HB.out hb); replace HT := Aside0.mk (Nat.le_trans HT.out hb.size); clear hb))
  have hb : Below W23.heap.size W23 W23.drew := below_drew (Below.refl _ _)
  replace HO9 := Aside0.mk (Kd.S_below HO9.out hb)
  replace HO13 := Aside0.mk (Kd.R_below HO13.out hb)
  replace HO17 := Aside0.mk (Kd.S_below HO17.out hb)
  replace HO22 := Aside0.mk (Kd.S_below HO22.out hb)
  replace HO26 := Aside0.mk (Kd.R_below HO26.out hb)
  replace HO30 := Aside0.mk (Kd.S_below HO30.out hb)
  replace BK1 := Aside0.mk (blk_below (g := gb1) (o := .cells #[.int .i64 a0_0, .slice A0_1 l0_1.length c0_1, .int .i64 a0_2] 24 (0, 0)) BK1.out hb)
  replace BK2 := Aside0.mk (blk_below (g := gb2) (o := .cells #[.slice A1_0 l1_0.length c1_0, .bool a1_1] 35 (0, 0)) BK2.out hb)
  replace BK3 := Aside0.mk (blk_below (g := gb3) (o := .cells #[.int .i64 t19, .slice B22 t20.length d22, .int .i64 t21] 27 (0, 0)) BK3.out hb)
  replace BK4 := Aside0.mk (blk_below (g := gb4) (o := .cells #[.slice B26 t24.length d26, .bool t25] 39 (0, 0)) BK4.out hb)
  replace HB := Aside0.mk (below_step HB.out hb)
  replace HT := Aside0.mk (Nat.le_trans HT.out hb.size)
  clear hb
  refine start_ (n := 5) (S := fun w' => w'.cell? ⟨gb3, 0, none⟩ = some (.int .i64 t19) ∧ w'.cell? ⟨gb3, 1, none⟩ = some (.slice B22 t20.length d22) ∧ w'.cell? ⟨gb3, 2, none⟩ = some (.int .i64 t21) ∧ w'.cell? ⟨gb1, 0, none⟩ = some (.int .i64 a0_0) ∧ w'.cell? ⟨gb1, 1, none⟩ = some (.slice A0_1 l0_1.length c0_1) ∧ w'.cell? ⟨gb1, 2, none⟩ = some (.int .i64 a0_2)) (ds := []) #[false, false, false, false, false] (by kernel_rfl) rfl rfl ⟨(blk_cell BK3.out 0).trans rfl, (blk_cell BK3.out 1).trans rfl, (blk_cell BK3.out 2).trans rfl, (blk_cell BK1.out 0).trans rfl, (blk_cell BK1.out 1).trans rfl, (blk_cell BK1.out 2).trans rfl⟩ (fun hHeld => ?_)
  generalize W23.drew = W24 at HO9 HO13 HO17 HO22 HO26 HO30 BK1 BK2 BK3 BK4 HB HT hHeld ⊢
  refine take_ (i := 0) (N := some 54) (v := ?_) (a' := ?_) #[true, false, false, false, false] rfl rfl (by kernel_rfl) (fun _ _ _ h => h) (Or.inl ⟨by rfl, ?_⟩) hHeld ?_ ?_
  rotate_left
  · rintro w' ⟨s0, s1, s2, s3, s4, s5⟩
    go_simp
    with_reducible rfl
  rotate_left
  · simp only [Act.put, List.setIfInBounds_toArray, List.set_cons_zero, List.set_cons_succ, i64_w, i32_w]
    rfl
  refine take_ (i := 1) (N := some 55) (v := ?_) (a' := ?_) #[true, true, false, false, false] rfl rfl (by kernel_rfl) (fun _ _ _ h => h) (Or.inl ⟨by rfl, ?_⟩) hHeld ?_ ?_
  rotate_left
  · rintro w' ⟨s0, s1, s2, s3, s4, s5⟩
    go_simp
    with_reducible rfl
  rotate_left
  · simp only [Act.put, List.setIfInBounds_toArray, List.set_cons_zero, List.set_cons_succ, i64_w, i32_w]
    rfl
  refine one_ (i := 2) (N := some 56) #[true, true, true, false, false] rfl rfl (by kernel_rfl) (by decide) (fun K hK => ?_)
  refine goes_ Try.func14 (by kernel_rfl) rfl #[.agg #[.int .i64 a0_0, .slice A0_1 l0_1.length c0_1, .int .i64 a0_2]] (by rfl) rfl rfl (by (try simp only [List.map_toArray, List.map_cons, List.map_nil]); first | done | rfl) ?_
  with_reducible refine (laws_toKeep.calls k a0_0 _ _ l0_1 a0_2 t34 t35 t36 _ (Kd.C_below HR0_1.out HB.out) HC0_1.out A33.out).mono ?_
  rintro e W25 ⟨v37, rfl, ho37, hb⟩
  refine ⟨_, rfl, ?_⟩
  obtain ⟨B37, d37, e_⟩ := Kd.S_slice ho37
  subst e_
  obtain ⟨lo37, hi37, nn, ht_, hO37⟩ := laws_FnExactDangersNow.newS ho37 HT.out (below_size HB.out) hb.size
  replace HO9 := Aside0.mk (Kd.S_below HO9.out hb)
  replace HO13 := Aside0.mk (Kd.R_below HO13.out hb)
  replace HO17 := Aside0.mk (Kd.S_below HO17.out hb)
  replace HO22 := Aside0.mk (Kd.S_below HO22.out hb)
  replace HO26 := Aside0.mk (Kd.R_below HO26.out hb)
  replace HO30 := Aside0.mk (Kd.S_below HO30.out hb)
  replace BK1 := Aside0.mk (blk_below (g := gb1) (o := .cells #[.int .i64 a0_0, .slice A0_1 l0_1.length c0_1, .int .i64 a0_2] 24 (0, 0)) BK1.out hb)
  replace BK2 := Aside0.mk (blk_below (g := gb2) (o := .cells #[.slice A1_0 l1_0.length c1_0, .bool a1_1] 35 (0, 0)) BK2.out hb)
  replace BK3 := Aside0.mk (blk_below (g := gb3) (o := .cells #[.int .i64 t19, .slice B22 t20.length d22, .int .i64 t21] 27 (0, 0)) BK3.out hb)
  replace BK4 := Aside0.mk (blk_below (g := gb4) (o := .cells #[.slice B26 t24.length d26, .bool t25] 39 (0, 0)) BK4.out hb)
  replace HB := Aside0.mk (below_step HB.out hb)
  replace HT := Aside0.mk (Nat.le_trans HT.out hb.size)
  have HO37 := Aside0.mk hO37
  replace HT := Aside0.mk ht_
  replace HN := Aside0.mk (And.intro nn HN.out)
  clear ho37 hO37 nn ht_
  clear hb
  refine hK.out _ _ ⟨(blk_cell BK3.out 0).trans rfl, (blk_cell BK3.out 1).trans rfl, (blk_cell BK3.out 2).trans rfl, (blk_cell BK1.out 0).trans rfl, (blk_cell BK1.out 1).trans rfl, (blk_cell BK1.out 2).trans rfl⟩ (fun hHeld => ?_)
  clear hK K
  refine norm_ (a' := ?_) ?_ ?_
  rotate_left
  · show Act.put _ (some 56) _ = _
    simp only [Act.put, List.setIfInBounds_toArray, List.set_cons_zero, List.set_cons_succ, i64_w, i32_w]
    rfl
  refine one_ (i := 3) (N := some 57) #[true, true, true, true, false] rfl rfl (by kernel_rfl) (by decide) (fun K hK => ?_)
  refine goes_ Try.func16 (by kernel_rfl) rfl #[.agg #[.int .i64 t19, .slice B22 t20.length d22, .int .i64 t21], .agg #[.int .i64 t34, .slice B37 t35.length d37, .int .i64 t36]] (by rfl) rfl rfl (by (try simp only [List.map_toArray, List.map_cons, List.map_nil]); first | done | rfl) ?_
  with_reducible refine (laws_eqKeep.calls k t19 _ _ t20 t21 t34 _ _ t35 t36 true _ (Kd.R_reads' (Kd.S_R HO22.out)).2.2 (Kd.R_reads' (Kd.S_R HO22.out)).2.1 (Kd.R_reads' (Kd.S_R HO37.out)).2.2 (Kd.R_reads' (Kd.S_R HO37.out)).2.1 A38.out).mono ?_
  rintro e W26 ⟨rfl, hb⟩
  refine ⟨_, rfl, ?_⟩
  replace HO9 := Aside0.mk (Kd.S_below HO9.out hb)
  replace HO13 := Aside0.mk (Kd.R_below HO13.out hb)
  replace HO17 := Aside0.mk (Kd.S_below HO17.out hb)
  replace HO22 := Aside0.mk (Kd.S_below HO22.out hb)
  replace HO26 := Aside0.mk (Kd.R_below HO26.out hb)
  replace HO30 := Aside0.mk (Kd.S_below HO30.out hb)
  replace HO37 := Aside0.mk (Kd.S_below HO37.out hb)
  replace BK1 := Aside0.mk (blk_below (g := gb1) (o := .cells #[.int .i64 a0_0, .slice A0_1 l0_1.length c0_1, .int .i64 a0_2] 24 (0, 0)) BK1.out hb)
  replace BK2 := Aside0.mk (blk_below (g := gb2) (o := .cells #[.slice A1_0 l1_0.length c1_0, .bool a1_1] 35 (0, 0)) BK2.out hb)
  replace BK3 := Aside0.mk (blk_below (g := gb3) (o := .cells #[.int .i64 t19, .slice B22 t20.length d22, .int .i64 t21] 27 (0, 0)) BK3.out hb)
  replace BK4 := Aside0.mk (blk_below (g := gb4) (o := .cells #[.slice B26 t24.length d26, .bool t25] 39 (0, 0)) BK4.out hb)
  replace HB := Aside0.mk (below_step HB.out hb)
  replace HT := Aside0.mk (Nat.le_trans HT.out hb.size)
  clear hb
  refine hK.out _ _ ⟨(blk_cell BK3.out 0).trans rfl, (blk_cell BK3.out 1).trans rfl, (blk_cell BK3.out 2).trans rfl, (blk_cell BK1.out 0).trans rfl, (blk_cell BK1.out 1).trans rfl, (blk_cell BK1.out 2).trans rfl⟩ (fun hHeld => ?_)
  clear hK K
  refine norm_ (a' := ?_) ?_ ?_
  rotate_left
  · show Act.put _ (some 57) _ = _
    simp only [Act.put, List.setIfInBounds_toArray, List.set_cons_zero, List.set_cons_succ, i64_w, i32_w]
    rfl
  refine pure_ (i := 4) (N := some 58) (v := ?_) (a' := ?_) #[true, true, true, true, true] rfl rfl (by kernel_rfl) (fun _ _ _ h => h) (Or.inl ⟨by rfl, ?_⟩) ?_ ?_
  rotate_left
  · intro w'
    go_simp
    with_reducible rfl
  rotate_left
  · simp only [Act.put, List.setIfInBounds_toArray, List.set_cons_zero, List.set_cons_succ, i64_w, i32_w]
    rfl
  refine done_ (by kernel_rfl) ?_
  try go_wp2
  have hb : Below W26.heap.size W26 W26.drew := below_drew (Below.refl _ _)
  replace HO9 := Aside0.mk (Kd.S_below HO9.out hb)
  replace HO13 := Aside0.mk (Kd.R_below HO13.out hb)
  replace HO17 := Aside0.mk (Kd.S_below HO17.out hb)
  replace HO22 := Aside0.mk (Kd.S_below HO22.out hb)
  replace HO26 := Aside0.mk (Kd.R_below HO26.out hb)
  replace HO30 := Aside0.mk (Kd.S_below HO30.out hb)
  replace HO37 := Aside0.mk (Kd.S_below HO37.out hb)
  replace BK1 := Aside0.mk (blk_below (g := gb1) (o := .cells #[.int .i64 a0_0, .slice A0_1 l0_1.length c0_1, .int .i64 a0_2] 24 (0, 0)) BK1.out hb)
  replace BK2 := Aside0.mk (blk_below (g := gb2) (o := .cells #[.slice A1_0 l1_0.length c1_0, .bool a1_1] 35 (0, 0)) BK2.out hb)
  replace BK3 := Aside0.mk (blk_below (g := gb3) (o := .cells #[.int .i64 t19, .slice B22 t20.length d22, .int .i64 t21] 27 (0, 0)) BK3.out hb)
  replace BK4 := Aside0.mk (blk_below (g := gb4) (o := .cells #[.slice B26 t24.length d26, .bool t25] 39 (0, 0)) BK4.out hb)
  replace HB := Aside0.mk (below_step HB.out hb)
  replace HT := Aside0.mk (Nat.le_trans HT.out hb.size)
  clear hb
  refine start_ (n := 5) (S := fun w' => w'.cell? ⟨gb4, 0, none⟩ = some (.slice B26 t24.length d26) ∧ w'.cell? ⟨gb4, 1, none⟩ = some (.bool t25) ∧ w'.cell? ⟨gb2, 0, none⟩ = some (.slice A1_0 l1_0.length c1_0) ∧ w'.cell? ⟨gb2, 1, none⟩ = some (.bool a1_1)) (ds := []) #[false, false, false, false, false] (by kernel_rfl) rfl rfl ⟨(blk_cell BK4.out 0).trans rfl, (blk_cell BK4.out 1).trans rfl, (blk_cell BK2.out 0).trans rfl, (blk_cell BK2.out 1).trans rfl⟩ (fun hHeld => ?_)
  generalize W26.drew = W27 at HO9 HO13 HO17 HO22 HO26 HO30 HO37 BK1 BK2 BK3 BK4 HB HT hHeld ⊢
  refine take_ (i := 0) (N := some 59) (v := ?_) (a' := ?_) #[true, false, false, false, false] rfl rfl (by kernel_rfl) (fun _ _ _ h => h) (Or.inl ⟨by rfl, ?_⟩) hHeld ?_ ?_
  rotate_left
  · rintro w' ⟨s0, s1, s2, s3⟩
    go_simp
    with_reducible rfl
  rotate_left
  · simp only [Act.put, List.setIfInBounds_toArray, List.set_cons_zero, List.set_cons_succ, i64_w, i32_w]
    rfl
  refine take_ (i := 1) (N := some 60) (v := ?_) (a' := ?_) #[true, true, false, false, false] rfl rfl (by kernel_rfl) (fun _ _ _ h => h) (Or.inl ⟨by rfl, ?_⟩) hHeld ?_ ?_
  rotate_left
  · rintro w' ⟨s0, s1, s2, s3⟩
    go_simp
    with_reducible rfl
  rotate_left
  · simp only [Act.put, List.setIfInBounds_toArray, List.set_cons_zero, List.set_cons_succ, i64_w, i32_w]
    rfl
  refine one_ (i := 2) (N := some 61) #[true, true, true, false, false] rfl rfl (by kernel_rfl) (by decide) (fun K hK => ?_)
  refine goes_ Try.func21 (by kernel_rfl) rfl #[.agg #[.slice A1_0 l1_0.length c1_0, .bool a1_1]] (by rfl) rfl rfl (by (try simp only [List.map_toArray, List.map_cons, List.map_nil]); first | done | rfl) ?_
  with_reducible refine (laws_toBank.calls k _ _ l1_0 a1_1 t41 t42 _ (Kd.C_below HR1_0.out HB.out) HC1_0.out A40.out).mono ?_
  rintro e W28 ⟨v43, rfl, ho43, hb⟩
  refine ⟨_, rfl, ?_⟩
  obtain ⟨B43, d43, e_⟩ := Kd.R_slice ho43
  subst e_
  obtain ⟨lo43, hi43, nn, ht_, hO43⟩ := laws_FnExactDangersNow.newR ho43 HT.out (below_size HB.out) hb.size
  replace HO9 := Aside0.mk (Kd.S_below HO9.out hb)
  replace HO13 := Aside0.mk (Kd.R_below HO13.out hb)
  replace HO17 := Aside0.mk (Kd.S_below HO17.out hb)
  replace HO22 := Aside0.mk (Kd.S_below HO22.out hb)
  replace HO26 := Aside0.mk (Kd.R_below HO26.out hb)
  replace HO30 := Aside0.mk (Kd.S_below HO30.out hb)
  replace HO37 := Aside0.mk (Kd.S_below HO37.out hb)
  replace BK1 := Aside0.mk (blk_below (g := gb1) (o := .cells #[.int .i64 a0_0, .slice A0_1 l0_1.length c0_1, .int .i64 a0_2] 24 (0, 0)) BK1.out hb)
  replace BK2 := Aside0.mk (blk_below (g := gb2) (o := .cells #[.slice A1_0 l1_0.length c1_0, .bool a1_1] 35 (0, 0)) BK2.out hb)
  replace BK3 := Aside0.mk (blk_below (g := gb3) (o := .cells #[.int .i64 t19, .slice B22 t20.length d22, .int .i64 t21] 27 (0, 0)) BK3.out hb)
  replace BK4 := Aside0.mk (blk_below (g := gb4) (o := .cells #[.slice B26 t24.length d26, .bool t25] 39 (0, 0)) BK4.out hb)
  replace HB := Aside0.mk (below_step HB.out hb)
  replace HT := Aside0.mk (Nat.le_trans HT.out hb.size)
  have HO43 := Aside0.mk hO43
  replace HT := Aside0.mk ht_
  replace HN := Aside0.mk (And.intro nn HN.out)
  clear ho43 hO43 nn ht_
  clear hb
  refine hK.out _ _ ⟨(blk_cell BK4.out 0).trans rfl, (blk_cell BK4.out 1).trans rfl, (blk_cell BK2.out 0).trans rfl, (blk_cell BK2.out 1).trans rfl⟩ (fun hHeld => ?_)
  clear hK K
  refine norm_ (a' := ?_) ?_ ?_
  rotate_left
  · show Act.put _ (some 61) _ = _
    simp only [Act.put, List.setIfInBounds_toArray, List.set_cons_zero, List.set_cons_succ, i64_w, i32_w]
    rfl
  refine one_ (i := 3) (N := some 62) #[true, true, true, true, false] rfl rfl (by kernel_rfl) (by decide) (fun K hK => ?_)
  refine goes_ Try.func23 (by kernel_rfl) rfl #[.agg #[.slice B26 t24.length d26, .bool t25], .agg #[.slice B43 t41.length d43, .bool t42]] (by rfl) rfl rfl (by (try simp only [List.map_toArray, List.map_cons, List.map_nil]); first | done | rfl) ?_
  with_reducible refine (laws_eqBank.calls k _ _ t24 t25 _ _ t41 t42 true _ (Kd.R_reads' HO26.out).2.2 (Kd.R_reads' HO26.out).2.1 (Kd.R_reads' HO43.out).2.2 (Kd.R_reads' HO43.out).2.1 A44.out).mono ?_
  rintro e W29 ⟨rfl, hb⟩
  refine ⟨_, rfl, ?_⟩
  replace HO9 := Aside0.mk (Kd.S_below HO9.out hb)
  replace HO13 := Aside0.mk (Kd.R_below HO13.out hb)
  replace HO17 := Aside0.mk (Kd.S_below HO17.out hb)
  replace HO22 := Aside0.mk (Kd.S_below HO22.out hb)
  replace HO26 := Aside0.mk (Kd.R_below HO26.out hb)
  replace HO30 := Aside0.mk (Kd.S_below HO30.out hb)
  replace HO37 := Aside0.mk (Kd.S_below HO37.out hb)
  replace HO43 := Aside0.mk (Kd.R_below HO43.out hb)
  replace BK1 := Aside0.mk (blk_below (g := gb1) (o := .cells #[.int .i64 a0_0, .slice A0_1 l0_1.length c0_1, .int .i64 a0_2] 24 (0, 0)) BK1.out hb)
  replace BK2 := Aside0.mk (blk_below (g := gb2) (o := .cells #[.slice A1_0 l1_0.length c1_0, .bool a1_1] 35 (0, 0)) BK2.out hb)
  replace BK3 := Aside0.mk (blk_below (g := gb3) (o := .cells #[.int .i64 t19, .slice B22 t20.length d22, .int .i64 t21] 27 (0, 0)) BK3.out hb)
  replace BK4 := Aside0.mk (blk_below (g := gb4) (o := .cells #[.slice B26 t24.length d26, .bool t25] 39 (0, 0)) BK4.out hb)
  replace HB := Aside0.mk (below_step HB.out hb)
  replace HT := Aside0.mk (Nat.le_trans HT.out hb.size)
  clear hb
  refine hK.out _ _ ⟨(blk_cell BK4.out 0).trans rfl, (blk_cell BK4.out 1).trans rfl, (blk_cell BK2.out 0).trans rfl, (blk_cell BK2.out 1).trans rfl⟩ (fun hHeld => ?_)
  clear hK K
  refine norm_ (a' := ?_) ?_ ?_
  rotate_left
  · show Act.put _ (some 62) _ = _
    simp only [Act.put, List.setIfInBounds_toArray, List.set_cons_zero, List.set_cons_succ, i64_w, i32_w]
    rfl
  refine pure_ (i := 4) (N := some 63) (v := ?_) (a' := ?_) #[true, true, true, true, true] rfl rfl (by kernel_rfl) (fun _ _ _ h => h) (Or.inl ⟨by rfl, ?_⟩) ?_ ?_
  rotate_left
  · intro w'
    go_simp
    with_reducible rfl
  rotate_left
  · simp only [Act.put, List.setIfInBounds_toArray, List.set_cons_zero, List.set_cons_succ, i64_w, i32_w]
    rfl
  refine done_ (by kernel_rfl) ?_
  have cz3_0 : W29.cell? ⟨gb3, 0, none⟩ = some (.int .i64 t19) := (blk_cell BK3.out 0).trans rfl
  have cz3_1 : W29.cell? ⟨gb3, 1, none⟩ = some (.slice B22 t20.length d22) := (blk_cell BK3.out 1).trans rfl
  have cz3_2 : W29.cell? ⟨gb3, 2, none⟩ = some (.int .i64 t21) := (blk_cell BK3.out 2).trans rfl
  try go_wp2_with (first | ((with_reducible refine gate_dst (N := 66) rfl ?_); refine goesL_ (some 66) rfl rfl Try.func26 (by kernel_rfl) rfl #[.agg #[.int .i64 t19, .slice B22 t20.length d22, .int .i64 t21], .int .i64 1] rfl (by (try simp only [List.map_toArray, List.map_cons, List.map_nil]); first | done | rfl) ?_; (with_reducible refine (laws_markKeep.calls k (fun k_ => lo22 ≤ k_ ∧ k_ < hi22) t19 (.slice B22 t20.length d22) t20 t21 1 t47 t48 w _ HB.out HO22.out A46.out).mono ?_); rintro e W30 ⟨rfl, hy0, hb, hkp⟩; refine ⟨_, rfl, ?_⟩; replace HO9 := Aside0.mk (laws_FnExactDangersNow.keptS HO9.out hkp (by have hn_ := HN.out; omega)); replace HO13 := Aside0.mk (laws_FnExactDangersNow.keptR HO13.out hkp (by have hn_ := HN.out; omega)); replace HO17 := Aside0.mk (laws_FnExactDangersNow.keptS HO17.out hkp (by have hn_ := HN.out; omega)); replace HO26 := Aside0.mk (laws_FnExactDangersNow.keptR HO26.out hkp (by have hn_ := HN.out; omega)); replace HO30 := Aside0.mk (laws_FnExactDangersNow.keptS HO30.out hkp (by have hn_ := HN.out; omega)); replace HO37 := Aside0.mk (laws_FnExactDangersNow.keptS HO37.out hkp (by have hn_ := HN.out; omega)); replace HO43 := Aside0.mk (laws_FnExactDangersNow.keptR HO43.out hkp (by have hn_ := HN.out; omega)); replace BK1 := Aside0.mk (laws_FnExactDangersNow.keptB BK1.out hkp (by have hn_ := HN.out; omega)); replace BK2 := Aside0.mk (laws_FnExactDangersNow.keptB BK2.out hkp (by have hn_ := HN.out; omega)); replace BK3 := Aside0.mk (laws_FnExactDangersNow.keptB BK3.out hkp (by have hn_ := HN.out; omega)); replace BK4 := Aside0.mk (laws_FnExactDangersNow.keptB BK4.out hkp (by have hn_ := HN.out; omega)); replace HO22 := Aside0.mk (hy0); replace HB := Aside0.mk hb; replace HT := Aside0.mk (Nat.le_trans HT.out hkp.1); clear hy0 hb hkp; have hl_ := (Kd.R_reads' (Kd.S_R HO22.out)).1; rw [hl_] at HO22 BK3; (try simp only [hl_]); clear hl_; (try clear cz3_0 cz3_1 cz3_2); have cz4_0 : W30.cell? ⟨gb4, 0, none⟩ = some (.slice B26 t24.length d26) := (blk_cell BK4.out 0).trans rfl; have cz4_1 : W30.cell? ⟨gb4, 1, none⟩ = some (.bool t25) := (blk_cell BK4.out 1).trans rfl) | ((with_reducible refine gate_dst (N := 69) rfl ?_); refine goesL_ (some 69) rfl rfl Try.func27 (by kernel_rfl) rfl #[.agg #[.slice B26 t24.length d26, .bool t25], .int .i64 t47] rfl (by (try simp only [List.map_toArray, List.map_cons, List.map_nil]); first | done | rfl) ?_; (with_reducible refine (laws_markBank.calls k (fun k_ => lo26 ≤ k_ ∧ k_ < hi26) (.slice B26 t24.length d26) t24 t25 t47 t50 t51 w _ HB.out HO26.out A49.out).mono ?_); rintro e W31 ⟨rfl, hy0, hb, hkp⟩; refine ⟨_, rfl, ?_⟩; replace HO9 := Aside0.mk (laws_FnExactDangersNow.keptS HO9.out hkp (by have hn_ := HN.out; omega)); replace HO13 := Aside0.mk (laws_FnExactDangersNow.keptR HO13.out hkp (by have hn_ := HN.out; omega)); replace HO17 := Aside0.mk (laws_FnExactDangersNow.keptS HO17.out hkp (by have hn_ := HN.out; omega)); replace HO22 := Aside0.mk (laws_FnExactDangersNow.keptS HO22.out hkp (by have hn_ := HN.out; omega)); replace HO30 := Aside0.mk (laws_FnExactDangersNow.keptS HO30.out hkp (by have hn_ := HN.out; omega)); replace HO37 := Aside0.mk (laws_FnExactDangersNow.keptS HO37.out hkp (by have hn_ := HN.out; omega)); replace HO43 := Aside0.mk (laws_FnExactDangersNow.keptR HO43.out hkp (by have hn_ := HN.out; omega)); replace BK1 := Aside0.mk (laws_FnExactDangersNow.keptB BK1.out hkp (by have hn_ := HN.out; omega)); replace BK2 := Aside0.mk (laws_FnExactDangersNow.keptB BK2.out hkp (by have hn_ := HN.out; omega)); replace BK3 := Aside0.mk (laws_FnExactDangersNow.keptB BK3.out hkp (by have hn_ := HN.out; omega)); replace BK4 := Aside0.mk (laws_FnExactDangersNow.keptB BK4.out hkp (by have hn_ := HN.out; omega)); replace HO26 := Aside0.mk (Kd.R_reok rfl hy0 (fun k_ e_ => HO26.out.1 k_ e_)); replace HB := Aside0.mk hb; replace HT := Aside0.mk (Nat.le_trans HT.out hkp.1); clear hy0 hb hkp; have hl_ := (Kd.R_reads' HO26.out).1; rw [hl_] at HO26 BK4; (try simp only [hl_]); clear hl_; (try clear cz4_0 cz4_1)) | ((with_reducible refine gate_dst (N := 75) rfl ?_); (refine gate_guard (by rfl) ?_; dsimp only); refine goesL_ (some 75) rfl rfl Try.func33 (by kernel_rfl) rfl #[.slice B30 t28.length d30, .slice B17 t15.length d17] rfl (by (try simp only [List.map_toArray, List.map_cons, List.map_nil]); first | done | rfl) ?_; (with_reducible refine (laws_eqIntSS.calls k _ _ t28 _ _ t15 true _ (Kd.R_reads' (Kd.S_R HO30.out)).2.2 (Kd.R_reads' (Kd.S_R HO30.out)).2.1 (Kd.R_reads' (Kd.S_R HO17.out)).2.2 (Kd.R_reads' (Kd.S_R HO17.out)).2.1 A52.out).mono ?_); rintro e W32 ⟨rfl, hd⟩; have hb := hd.below; clear hd; refine ⟨_, rfl, ?_⟩; replace HO9 := Aside0.mk (Kd.S_below HO9.out hb); replace HO13 := Aside0.mk (Kd.R_below HO13.out hb); replace HO17 := Aside0.mk (Kd.S_below HO17.out hb); replace HO22 := Aside0.mk (Kd.S_below HO22.out hb); replace HO26 := Aside0.mk (Kd.R_below HO26.out hb); replace HO30 := Aside0.mk (Kd.S_below HO30.out hb); replace HO37 := Aside0.mk (Kd.S_below HO37.out hb); replace HO43 := Aside0.mk (Kd.R_below HO43.out hb); replace BK1 := Aside0.mk (blk_below (g := gb1) (o := .cells #[.int .i64 a0_0, .slice A0_1 l0_1.length c0_1, .int .i64 a0_2] 24 (0, 0)) BK1.out hb); replace BK2 := Aside0.mk (blk_below (g := gb2) (o := .cells #[.slice A1_0 l1_0.length c1_0, .bool a1_1] 35 (0, 0)) BK2.out hb); replace BK3 := Aside0.mk (blk_below (g := gb3) (o := .cells #[.int .i64 t19, .slice B22 t48.length d22, .int .i64 t21] 27 (0, 0)) BK3.out hb); replace BK4 := Aside0.mk (blk_below (g := gb4) (o := .cells #[.slice B26 t51.length d26, .bool t25] 39 (0, 0)) BK4.out hb); replace HB := Aside0.mk (below_step HB.out hb); replace HT := Aside0.mk (Nat.le_trans HT.out hb.size); clear hb) | ((with_reducible refine gate_dst (N := 85) rfl ?_); refine goesL_ (some 85) rfl rfl Try.func34 (by kernel_rfl) rfl #[.slice B30 t28.length d30, .int .i64 1] rfl (by (try simp only [List.map_toArray, List.map_cons, List.map_nil]); first | done | rfl) ?_; (with_reducible refine (laws_markIntSS.calls k (fun k_ => lo30 ≤ k_ ∧ k_ < hi30) (.slice B30 t28.length d30) t28 1 t55 t56 w _ HB.out HO30.out A54.out).mono ?_); rintro e W33 ⟨rfl, hy0, hb, hkp⟩; refine ⟨_, rfl, ?_⟩; replace HO9 := Aside0.mk (laws_FnExactDangersNow.keptS HO9.out hkp (by have hn_ := HN.out; omega)); replace HO13 := Aside0.mk (laws_FnExactDangersNow.keptR HO13.out hkp (by have hn_ := HN.out; omega)); replace HO17 := Aside0.mk (laws_FnExactDangersNow.keptS HO17.out hkp (by have hn_ := HN.out; omega)); replace HO22 := Aside0.mk (laws_FnExactDangersNow.keptS HO22.out hkp (by have hn_ := HN.out; omega)); replace HO26 := Aside0.mk (laws_FnExactDangersNow.keptR HO26.out hkp (by have hn_ := HN.out; omega)); replace HO37 := Aside0.mk (laws_FnExactDangersNow.keptS HO37.out hkp (by have hn_ := HN.out; omega)); replace HO43 := Aside0.mk (laws_FnExactDangersNow.keptR HO43.out hkp (by have hn_ := HN.out; omega)); replace BK1 := Aside0.mk (laws_FnExactDangersNow.keptB BK1.out hkp (by have hn_ := HN.out; omega)); replace BK2 := Aside0.mk (laws_FnExactDangersNow.keptB BK2.out hkp (by have hn_ := HN.out; omega)); replace BK3 := Aside0.mk (laws_FnExactDangersNow.keptB BK3.out hkp (by have hn_ := HN.out; omega)); replace BK4 := Aside0.mk (laws_FnExactDangersNow.keptB BK4.out hkp (by have hn_ := HN.out; omega)); replace HO30 := Aside0.mk (hy0); replace HB := Aside0.mk hb; replace HT := Aside0.mk (Nat.le_trans HT.out hkp.1); clear hy0 hb hkp; have hl_ := (Kd.R_reads' (Kd.S_R HO30.out)).1; rw [hl_] at HO30; (try simp only [hl_]); clear hl_) | ((with_reducible refine gate_dst (N := 88) rfl ?_); refine goesL_ (some 88) rfl rfl Try.func35 (by kernel_rfl) rfl #[.slice B30 t56.length d30, .int .i64 1] rfl (by (try simp only [List.map_toArray, List.map_cons, List.map_nil]); first | done | rfl) ?_; (with_reducible refine (laws_heldIntSS.calls k _ _ t56 1 t58 _ (Kd.R_reads' (Kd.S_R HO30.out)).2.2 (Kd.R_reads' (Kd.S_R HO30.out)).2.1 A57.out).mono ?_); rintro e W34 ⟨rfl, hd⟩; have hb := hd.below; clear hd; refine ⟨_, rfl, ?_⟩; replace HO9 := Aside0.mk (Kd.S_below HO9.out hb); replace HO13 := Aside0.mk (Kd.R_below HO13.out hb); replace HO17 := Aside0.mk (Kd.S_below HO17.out hb); replace HO22 := Aside0.mk (Kd.S_below HO22.out hb); replace HO26 := Aside0.mk (Kd.R_below HO26.out hb); replace HO30 := Aside0.mk (Kd.S_below HO30.out hb); replace HO37 := Aside0.mk (Kd.S_below HO37.out hb); replace HO43 := Aside0.mk (Kd.R_below HO43.out hb); replace BK1 := Aside0.mk (blk_below (g := gb1) (o := .cells #[.int .i64 a0_0, .slice A0_1 l0_1.length c0_1, .int .i64 a0_2] 24 (0, 0)) BK1.out hb); replace BK2 := Aside0.mk (blk_below (g := gb2) (o := .cells #[.slice A1_0 l1_0.length c1_0, .bool a1_1] 35 (0, 0)) BK2.out hb); replace BK3 := Aside0.mk (blk_below (g := gb3) (o := .cells #[.int .i64 t19, .slice B22 t48.length d22, .int .i64 t21] 27 (0, 0)) BK3.out hb); replace BK4 := Aside0.mk (blk_below (g := gb4) (o := .cells #[.slice B26 t51.length d26, .bool t25] 39 (0, 0)) BK4.out hb); replace HB := Aside0.mk (below_step HB.out hb); replace HT := Aside0.mk (Nat.le_trans HT.out hb.size); clear hb))
  have hb : Below W34.heap.size W34 W34.drew := below_drew (Below.refl _ _)
  replace HO9 := Aside0.mk (Kd.S_below HO9.out hb)
  replace HO13 := Aside0.mk (Kd.R_below HO13.out hb)
  replace HO17 := Aside0.mk (Kd.S_below HO17.out hb)
  replace HO22 := Aside0.mk (Kd.S_below HO22.out hb)
  replace HO26 := Aside0.mk (Kd.R_below HO26.out hb)
  replace HO30 := Aside0.mk (Kd.S_below HO30.out hb)
  replace HO37 := Aside0.mk (Kd.S_below HO37.out hb)
  replace HO43 := Aside0.mk (Kd.R_below HO43.out hb)
  replace BK1 := Aside0.mk (blk_below (g := gb1) (o := .cells #[.int .i64 a0_0, .slice A0_1 l0_1.length c0_1, .int .i64 a0_2] 24 (0, 0)) BK1.out hb)
  replace BK2 := Aside0.mk (blk_below (g := gb2) (o := .cells #[.slice A1_0 l1_0.length c1_0, .bool a1_1] 35 (0, 0)) BK2.out hb)
  replace BK3 := Aside0.mk (blk_below (g := gb3) (o := .cells #[.int .i64 t19, .slice B22 t48.length d22, .int .i64 t21] 27 (0, 0)) BK3.out hb)
  replace BK4 := Aside0.mk (blk_below (g := gb4) (o := .cells #[.slice B26 t51.length d26, .bool t25] 39 (0, 0)) BK4.out hb)
  replace HB := Aside0.mk (below_step HB.out hb)
  replace HT := Aside0.mk (Nat.le_trans HT.out hb.size)
  clear hb
  refine start_ (n := 10) (S := fun w' => w'.cell? ⟨gb1, 0, none⟩ = some (.int .i64 a0_0) ∧ w'.cell? ⟨gb1, 1, none⟩ = some (.slice A0_1 l0_1.length c0_1) ∧ w'.cell? ⟨gb1, 2, none⟩ = some (.int .i64 a0_2) ∧ w'.cell? ⟨gb2, 0, none⟩ = some (.slice A1_0 l1_0.length c1_0) ∧ w'.cell? ⟨gb2, 1, none⟩ = some (.bool a1_1)) (ds := []) #[false, false, false, false, false, false, false, false, false, false] (by kernel_rfl) rfl rfl ⟨(blk_cell BK1.out 0).trans rfl, (blk_cell BK1.out 1).trans rfl, (blk_cell BK1.out 2).trans rfl, (blk_cell BK2.out 0).trans rfl, (blk_cell BK2.out 1).trans rfl⟩ (fun hHeld => ?_)
  generalize W34.drew = W35 at HO9 HO13 HO17 HO22 HO26 HO30 HO37 HO43 BK1 BK2 BK3 BK4 HB HT hHeld ⊢
  refine take_ (i := 0) (N := some 95) (v := ?_) (a' := ?_) #[true, false, false, false, false, false, false, false, false, false] rfl rfl (by kernel_rfl) (fun _ _ _ h => h) (Or.inl ⟨by rfl, ?_⟩) hHeld ?_ ?_
  rotate_left
  · rintro w' ⟨s0, s1, s2, s3, s4⟩
    go_simp
    with_reducible rfl
  rotate_left
  · simp only [Act.put, List.setIfInBounds_toArray, List.set_cons_zero, List.set_cons_succ, i64_w, i32_w]
    rfl
  refine take_ (i := 2) (N := some 97) (v := ?_) (a' := ?_) #[true, false, true, false, false, false, false, false, false, false] rfl rfl (by kernel_rfl) (fun _ _ _ h => h) (Or.inl ⟨by rfl, ?_⟩) hHeld ?_ ?_
  rotate_left
  · rintro w' ⟨s0, s1, s2, s3, s4⟩
    go_simp
    with_reducible rfl
  rotate_left
  · simp only [Act.put, List.setIfInBounds_toArray, List.set_cons_zero, List.set_cons_succ, i64_w, i32_w]
    rfl
  refine one_ (i := 1) (N := some 96) #[true, true, true, false, false, false, false, false, false, false] rfl rfl (by kernel_rfl) (by decide) (fun K hK => ?_)
  refine goes_ Try.func14 (by kernel_rfl) rfl #[.agg #[.int .i64 a0_0, .slice A0_1 l0_1.length c0_1, .int .i64 a0_2]] (by rfl) rfl rfl (by (try simp only [List.map_toArray, List.map_cons, List.map_nil]); first | done | rfl) ?_
  with_reducible refine (laws_toKeep.calls k a0_0 _ _ l0_1 a0_2 t60 t61 t62 _ (Kd.C_below HR0_1.out HB.out) HC0_1.out A59.out).mono ?_
  rintro e W36 ⟨v63, rfl, ho63, hb⟩
  refine ⟨_, rfl, ?_⟩
  obtain ⟨B63, d63, e_⟩ := Kd.S_slice ho63
  subst e_
  obtain ⟨lo63, hi63, nn, ht_, hO63⟩ := laws_FnExactDangersNow.newS ho63 HT.out (below_size HB.out) hb.size
  replace HO9 := Aside0.mk (Kd.S_below HO9.out hb)
  replace HO13 := Aside0.mk (Kd.R_below HO13.out hb)
  replace HO17 := Aside0.mk (Kd.S_below HO17.out hb)
  replace HO22 := Aside0.mk (Kd.S_below HO22.out hb)
  replace HO26 := Aside0.mk (Kd.R_below HO26.out hb)
  replace HO30 := Aside0.mk (Kd.S_below HO30.out hb)
  replace HO37 := Aside0.mk (Kd.S_below HO37.out hb)
  replace HO43 := Aside0.mk (Kd.R_below HO43.out hb)
  replace BK1 := Aside0.mk (blk_below (g := gb1) (o := .cells #[.int .i64 a0_0, .slice A0_1 l0_1.length c0_1, .int .i64 a0_2] 24 (0, 0)) BK1.out hb)
  replace BK2 := Aside0.mk (blk_below (g := gb2) (o := .cells #[.slice A1_0 l1_0.length c1_0, .bool a1_1] 35 (0, 0)) BK2.out hb)
  replace BK3 := Aside0.mk (blk_below (g := gb3) (o := .cells #[.int .i64 t19, .slice B22 t48.length d22, .int .i64 t21] 27 (0, 0)) BK3.out hb)
  replace BK4 := Aside0.mk (blk_below (g := gb4) (o := .cells #[.slice B26 t51.length d26, .bool t25] 39 (0, 0)) BK4.out hb)
  replace HB := Aside0.mk (below_step HB.out hb)
  replace HT := Aside0.mk (Nat.le_trans HT.out hb.size)
  have HO63 := Aside0.mk hO63
  replace HT := Aside0.mk ht_
  replace HN := Aside0.mk (And.intro nn HN.out)
  clear ho63 hO63 nn ht_
  clear hb
  refine hK.out _ _ ⟨(blk_cell BK1.out 0).trans rfl, (blk_cell BK1.out 1).trans rfl, (blk_cell BK1.out 2).trans rfl, (blk_cell BK2.out 0).trans rfl, (blk_cell BK2.out 1).trans rfl⟩ (fun hHeld => ?_)
  clear hK K
  refine norm_ (a' := ?_) ?_ ?_
  rotate_left
  · show Act.put _ (some 96) _ = _
    simp only [Act.put, List.setIfInBounds_toArray, List.set_cons_zero, List.set_cons_succ, i64_w, i32_w]
    rfl
  refine one_ (i := 3) (N := some 98) #[true, true, true, true, false, false, false, false, false, false] rfl rfl (by kernel_rfl) (by decide) (fun K hK => ?_)
  refine goes_ Try.func21 (by kernel_rfl) rfl #[.agg #[.slice A1_0 l1_0.length c1_0, .bool a1_1]] (by rfl) rfl rfl (by (try simp only [List.map_toArray, List.map_cons, List.map_nil]); first | done | rfl) ?_
  with_reducible refine (laws_toBank.calls k _ _ l1_0 a1_1 t65 t66 _ (Kd.C_below HR1_0.out HB.out) HC1_0.out A64.out).mono ?_
  rintro e W37 ⟨v67, rfl, ho67, hb⟩
  refine ⟨_, rfl, ?_⟩
  obtain ⟨B67, d67, e_⟩ := Kd.R_slice ho67
  subst e_
  obtain ⟨lo67, hi67, nn, ht_, hO67⟩ := laws_FnExactDangersNow.newR ho67 HT.out (below_size HB.out) hb.size
  replace HO9 := Aside0.mk (Kd.S_below HO9.out hb)
  replace HO13 := Aside0.mk (Kd.R_below HO13.out hb)
  replace HO17 := Aside0.mk (Kd.S_below HO17.out hb)
  replace HO22 := Aside0.mk (Kd.S_below HO22.out hb)
  replace HO26 := Aside0.mk (Kd.R_below HO26.out hb)
  replace HO30 := Aside0.mk (Kd.S_below HO30.out hb)
  replace HO37 := Aside0.mk (Kd.S_below HO37.out hb)
  replace HO43 := Aside0.mk (Kd.R_below HO43.out hb)
  replace HO63 := Aside0.mk (Kd.S_below HO63.out hb)
  replace BK1 := Aside0.mk (blk_below (g := gb1) (o := .cells #[.int .i64 a0_0, .slice A0_1 l0_1.length c0_1, .int .i64 a0_2] 24 (0, 0)) BK1.out hb)
  replace BK2 := Aside0.mk (blk_below (g := gb2) (o := .cells #[.slice A1_0 l1_0.length c1_0, .bool a1_1] 35 (0, 0)) BK2.out hb)
  replace BK3 := Aside0.mk (blk_below (g := gb3) (o := .cells #[.int .i64 t19, .slice B22 t48.length d22, .int .i64 t21] 27 (0, 0)) BK3.out hb)
  replace BK4 := Aside0.mk (blk_below (g := gb4) (o := .cells #[.slice B26 t51.length d26, .bool t25] 39 (0, 0)) BK4.out hb)
  replace HB := Aside0.mk (below_step HB.out hb)
  replace HT := Aside0.mk (Nat.le_trans HT.out hb.size)
  have HO67 := Aside0.mk hO67
  replace HT := Aside0.mk ht_
  replace HN := Aside0.mk (And.intro nn HN.out)
  clear ho67 hO67 nn ht_
  clear hb
  refine hK.out _ _ ⟨(blk_cell BK1.out 0).trans rfl, (blk_cell BK1.out 1).trans rfl, (blk_cell BK1.out 2).trans rfl, (blk_cell BK2.out 0).trans rfl, (blk_cell BK2.out 1).trans rfl⟩ (fun hHeld => ?_)
  clear hK K
  refine norm_ (a' := ?_) ?_ ?_
  rotate_left
  · show Act.put _ (some 98) _ = _
    simp only [Act.put, List.setIfInBounds_toArray, List.set_cons_zero, List.set_cons_succ, i64_w, i32_w]
    rfl
  refine one_ (i := 4) (N := some 99) #[true, true, true, true, true, false, false, false, false, false] rfl rfl (by kernel_rfl) (by decide) (fun K hK => ?_)
  refine goes_ Try.func32 (by kernel_rfl) rfl #[.agg #[.int .i64 t60, .slice B63 t61.length d63, .int .i64 t62], .agg #[.slice B67 t65.length d67, .bool t66]] (by rfl) rfl rfl (by (try simp only [List.map_toArray, List.map_cons, List.map_nil]); first | done | rfl) ?_
  with_reducible refine (impl_DangersNow.calls k t60 _ _ t61 t62 _ _ t65 t66 t69 t70 _ (Kd.R_reads' (Kd.S_R HO63.out)).2.2 (Kd.R_reads' (Kd.S_R HO63.out)).2.1 (Kd.R_reads' HO67.out).2.2 (Kd.R_reads' HO67.out).2.1 A68.out).mono ?_
  rintro e W38 ⟨v71, rfl, ho71, hb⟩
  refine ⟨_, rfl, ?_⟩
  obtain ⟨B71, d71, e_⟩ := Kd.S_slice ho71
  subst e_
  obtain ⟨lo71, hi71, nn, ht_, hO71⟩ := laws_FnExactDangersNow.newS ho71 HT.out (below_size HB.out) hb.size
  replace HO9 := Aside0.mk (Kd.S_below HO9.out hb)
  replace HO13 := Aside0.mk (Kd.R_below HO13.out hb)
  replace HO17 := Aside0.mk (Kd.S_below HO17.out hb)
  replace HO22 := Aside0.mk (Kd.S_below HO22.out hb)
  replace HO26 := Aside0.mk (Kd.R_below HO26.out hb)
  replace HO30 := Aside0.mk (Kd.S_below HO30.out hb)
  replace HO37 := Aside0.mk (Kd.S_below HO37.out hb)
  replace HO43 := Aside0.mk (Kd.R_below HO43.out hb)
  replace HO63 := Aside0.mk (Kd.S_below HO63.out hb)
  replace HO67 := Aside0.mk (Kd.R_below HO67.out hb)
  replace BK1 := Aside0.mk (blk_below (g := gb1) (o := .cells #[.int .i64 a0_0, .slice A0_1 l0_1.length c0_1, .int .i64 a0_2] 24 (0, 0)) BK1.out hb)
  replace BK2 := Aside0.mk (blk_below (g := gb2) (o := .cells #[.slice A1_0 l1_0.length c1_0, .bool a1_1] 35 (0, 0)) BK2.out hb)
  replace BK3 := Aside0.mk (blk_below (g := gb3) (o := .cells #[.int .i64 t19, .slice B22 t48.length d22, .int .i64 t21] 27 (0, 0)) BK3.out hb)
  replace BK4 := Aside0.mk (blk_below (g := gb4) (o := .cells #[.slice B26 t51.length d26, .bool t25] 39 (0, 0)) BK4.out hb)
  replace HB := Aside0.mk (below_step HB.out hb)
  replace HT := Aside0.mk (Nat.le_trans HT.out hb.size)
  have HO71 := Aside0.mk hO71
  replace HT := Aside0.mk ht_
  replace HN := Aside0.mk (And.intro nn HN.out)
  clear ho71 hO71 nn ht_
  clear hb
  refine hK.out _ _ ⟨(blk_cell BK1.out 0).trans rfl, (blk_cell BK1.out 1).trans rfl, (blk_cell BK1.out 2).trans rfl, (blk_cell BK2.out 0).trans rfl, (blk_cell BK2.out 1).trans rfl⟩ (fun hHeld => ?_)
  clear hK K
  refine norm_ (a' := ?_) ?_ ?_
  rotate_left
  · show Act.put _ (some 99) _ = _
    simp only [Act.put, List.setIfInBounds_toArray, List.set_cons_zero, List.set_cons_succ, i64_w, i32_w]
    rfl
  refine pure_ (i := 5) (N := some 94) (v := ?_) (a' := ?_) #[true, true, true, true, true, true, false, false, false, false] rfl rfl (by kernel_rfl) (fun _ _ _ h => h) (Or.inl ⟨by rfl, ?_⟩) ?_ ?_
  rotate_left
  · intro w'
    go_simp
    with_reducible rfl
  rotate_left
  · simp only [Act.put, List.setIfInBounds_toArray, List.set_cons_zero, List.set_cons_succ, i64_w, i32_w]
    rfl
  refine pure_ (i := 6) (N := some 100) (v := ?_) (a' := ?_) #[true, true, true, true, true, true, true, false, false, false] rfl rfl (by kernel_rfl) (fun _ _ _ h => h) (Or.inl ⟨by rfl, ?_⟩) ?_ ?_
  rotate_left
  · intro w'
    go_simp
    with_reducible rfl
  rotate_left
  · simp only [Act.put, List.setIfInBounds_toArray, List.set_cons_zero, List.set_cons_succ, i64_w, i32_w]
    rfl
  refine pure_ (i := 7) (N := some 101) (v := ?_) (a' := ?_) #[true, true, true, true, true, true, true, true, false, false] rfl rfl (by kernel_rfl) (fun _ _ _ h => h) (Or.inl ⟨by rfl, ?_⟩) ?_ ?_
  rotate_left
  · intro w'
    go_simp
    with_reducible rfl
  rotate_left
  · simp only [Act.put, List.setIfInBounds_toArray, List.set_cons_zero, List.set_cons_succ, i64_w, i32_w]
    rfl
  refine pure_ (i := 8) (N := some 15) (v := ?_) (a' := ?_) #[true, true, true, true, true, true, true, true, true, false] rfl rfl (by kernel_rfl) (fun _ _ _ h => h) (Or.inl ⟨by rfl, ?_⟩) ?_ ?_
  rotate_left
  · intro w'
    go_simp
    with_reducible rfl
  rotate_left
  · simp only [Act.put, List.setIfInBounds_toArray, List.set_cons_zero, List.set_cons_succ, i64_w, i32_w]
    rfl
  refine pure_ (i := 9) (N := some 16) (v := ?_) (a' := ?_) #[true, true, true, true, true, true, true, true, true, true] rfl rfl (by kernel_rfl) (fun _ _ _ h => h) (Or.inl ⟨by rfl, ?_⟩) ?_ ?_
  rotate_left
  · intro w'
    go_simp
    with_reducible rfl
  rotate_left
  · simp only [Act.put, List.setIfInBounds_toArray, List.set_cons_zero, List.set_cons_succ, i64_w, i32_w]
    rfl
  refine done_ (by kernel_rfl) ?_
  try go_wp2_with (first | ((with_reducible refine gate_dst (N := 104) rfl ?_); refine goesL_ (some 104) rfl rfl Try.func33 (by kernel_rfl) rfl #[.slice B71 t69.length d71, .slice B17 t15.length d17] rfl (by (try simp only [List.map_toArray, List.map_cons, List.map_nil]); first | done | rfl) ?_; (with_reducible refine (laws_eqIntSS.calls k _ _ t69 _ _ t15 true _ (Kd.R_reads' (Kd.S_R HO71.out)).2.2 (Kd.R_reads' (Kd.S_R HO71.out)).2.1 (Kd.R_reads' (Kd.S_R HO17.out)).2.2 (Kd.R_reads' (Kd.S_R HO17.out)).2.1 A72.out).mono ?_); rintro e W39 ⟨rfl, hd⟩; have hb := hd.below; clear hd; refine ⟨_, rfl, ?_⟩; replace HO9 := Aside0.mk (Kd.S_below HO9.out hb); replace HO13 := Aside0.mk (Kd.R_below HO13.out hb); replace HO17 := Aside0.mk (Kd.S_below HO17.out hb); replace HO22 := Aside0.mk (Kd.S_below HO22.out hb); replace HO26 := Aside0.mk (Kd.R_below HO26.out hb); replace HO30 := Aside0.mk (Kd.S_below HO30.out hb); replace HO37 := Aside0.mk (Kd.S_below HO37.out hb); replace HO43 := Aside0.mk (Kd.R_below HO43.out hb); replace HO63 := Aside0.mk (Kd.S_below HO63.out hb); replace HO67 := Aside0.mk (Kd.R_below HO67.out hb); replace HO71 := Aside0.mk (Kd.S_below HO71.out hb); replace BK1 := Aside0.mk (blk_below (g := gb1) (o := .cells #[.int .i64 a0_0, .slice A0_1 l0_1.length c0_1, .int .i64 a0_2] 24 (0, 0)) BK1.out hb); replace BK2 := Aside0.mk (blk_below (g := gb2) (o := .cells #[.slice A1_0 l1_0.length c1_0, .bool a1_1] 35 (0, 0)) BK2.out hb); replace BK3 := Aside0.mk (blk_below (g := gb3) (o := .cells #[.int .i64 t19, .slice B22 t48.length d22, .int .i64 t21] 27 (0, 0)) BK3.out hb); replace BK4 := Aside0.mk (blk_below (g := gb4) (o := .cells #[.slice B26 t51.length d26, .bool t25] 39 (0, 0)) BK4.out hb); replace HB := Aside0.mk (below_step HB.out hb); replace HT := Aside0.mk (Nat.le_trans HT.out hb.size); clear hb) | ((with_reducible refine gate_dst (N := 113) rfl ?_); refine goesL_ (some 113) rfl rfl Try.func35 (by kernel_rfl) rfl #[.slice B30 t56.length d30, .int .i64 1] rfl (by (try simp only [List.map_toArray, List.map_cons, List.map_nil]); first | done | rfl) ?_; (with_reducible refine (laws_heldIntSS.calls k _ _ t56 1 t75 _ (Kd.R_reads' (Kd.S_R HO30.out)).2.2 (Kd.R_reads' (Kd.S_R HO30.out)).2.1 A74.out).mono ?_); rintro e W40 ⟨rfl, hd⟩; have hb := hd.below; clear hd; refine ⟨_, rfl, ?_⟩; replace HO9 := Aside0.mk (Kd.S_below HO9.out hb); replace HO13 := Aside0.mk (Kd.R_below HO13.out hb); replace HO17 := Aside0.mk (Kd.S_below HO17.out hb); replace HO22 := Aside0.mk (Kd.S_below HO22.out hb); replace HO26 := Aside0.mk (Kd.R_below HO26.out hb); replace HO30 := Aside0.mk (Kd.S_below HO30.out hb); replace HO37 := Aside0.mk (Kd.S_below HO37.out hb); replace HO43 := Aside0.mk (Kd.R_below HO43.out hb); replace HO63 := Aside0.mk (Kd.S_below HO63.out hb); replace HO67 := Aside0.mk (Kd.R_below HO67.out hb); replace HO71 := Aside0.mk (Kd.S_below HO71.out hb); replace BK1 := Aside0.mk (blk_below (g := gb1) (o := .cells #[.int .i64 a0_0, .slice A0_1 l0_1.length c0_1, .int .i64 a0_2] 24 (0, 0)) BK1.out hb); replace BK2 := Aside0.mk (blk_below (g := gb2) (o := .cells #[.slice A1_0 l1_0.length c1_0, .bool a1_1] 35 (0, 0)) BK2.out hb); replace BK3 := Aside0.mk (blk_below (g := gb3) (o := .cells #[.int .i64 t19, .slice B22 t48.length d22, .int .i64 t21] 27 (0, 0)) BK3.out hb); replace BK4 := Aside0.mk (blk_below (g := gb4) (o := .cells #[.slice B26 t51.length d26, .bool t25] 39 (0, 0)) BK4.out hb); replace HB := Aside0.mk (below_step HB.out hb); replace HT := Aside0.mk (Nat.le_trans HT.out hb.size); clear hb))
  go_ret
  exact ⟨by first | rfl | (simp; done) | (simp [*]; done), HB.out⟩

end Go.Proofs.Ytomiikbcahocaaa.G
