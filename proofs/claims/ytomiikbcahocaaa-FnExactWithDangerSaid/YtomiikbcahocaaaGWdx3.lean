-- Laid by wip/gprint.py (the session's own program, round the kit's printer) for this claim.
import Derived.Test.YtomiikbcahocaaaGWdx0
import Derived.Test.YtomiikbcahocaaaGWdx2
namespace Go.Proofs.Ytomiikbcahocaaa.G
open Go.RowKit Go.Proofs.YtomiikbcahocaaaW.PrintWords Go.Proofs.YtomiikbcahocaaaW.PrintLast Go.Proofs.YtomiikbcahocaaaW.PrintMore
attribute [local go_sem] max2_int min2_int max_two min_two max_three min_three max_four min_four   -- for this text's walks alone
set_option linter.unusedVariables false
set_option linter.unusedSimpArgs false

/-! ### spec_l1Same: function 76 -/
def spec_l1Same.l0 : Nat → List Int → List Int → Int → Int → Option (Bool)
  | 0, _, _, _, _ => none
  | k + 1, x0, x1, x12, x13 => if x13 < x12 then (if 0 ≤ x13 then (if x13 < (x0.length : Int) then (if x13 < (x1.length : Int) then (if (rd x0 x13) = (rd x1 x13) then (spec_l1Same.l0 k x0 x1 x12 (wrap64 (x13 + 1))) else (some false)) else (none)) else (none)) else (none)) else (some true)
def spec_l1Same.f (k : Nat) (l0 : List Int) (l1 : List Int) : Option (Bool) := if (l0.length : Int) = (l1.length : Int) then (spec_l1Same.l0 k l0 l1 (l0.length : Int) 0) else (some false)
set_option maxHeartbeats 8000000 in
set_option maxRecDepth 100000 in
theorem spec_l1Same.calls (k : Nat) (A0 : Option Addr) (c0 : Nat) (l0 : List Int) (A1 : Option Addr) (c1 : Nat) (l1 : List Int) (r : Bool) (w : World) (hr0 : Kd.C (Kd.int .i64) w A0 l0.length l0) (hc0 : l0.length ≤ c0) (hr1 : Kd.C (Kd.int .i64) w A1 l1.length l1) (hc1 : l1.length ≤ c1) (h : spec_l1Same.f k l0 l1 = some r) :
    Calls Try.prog 76 #[.slice A0 l0.length c0, .slice A1 l1.length c1] w fun e w' => e = .returned (.bool r) ∧ Drawn0 w w' := by
  have HR0 := Aside0.mk hr0
  have HC0 := Aside0.mk hc0
  clear hr0 hc0
  have HR1 := Aside0.mk hr1
  have HC1 := Aside0.mk hc1
  clear hr1 hc1
  have H : (if (l0.length : Int) = (l1.length : Int) then (spec_l1Same.l0 k l0 l1 (l0.length : Int) 0) else (some false)) = some r := h
  clear h
  by_cases c3 : (l0.length : Int) = (l1.length : Int)
  · rw [if_pos c3] at H
    have c3b0 : ((l0.length : Int) == (l1.length : Int)) = true := beq_iff_eq.mpr c3
    have c3b1 : ((l0.length : Int) != (l1.length : Int)) = false := bne_eq_false_iff_eq.mpr c3
    have c3b2 : (l0.length == l1.length) = true := by first | simpa using c3 | (simp at c3 ⊢; omega)
    clear c3
    have H' := Aside0.mk H
    clear H
    go_enter Try.func76, Try.ntmps76
    go_wp2
    repeat (go_quiet (fail); try go_wp2)
    go_loopg [13] k (fun kq v13 w' => ∃ (x13_1 : Int), v13 = .int .i64 x13_1 ∧ Aside0 (spec_l1Same.l0 kq l0 l1 (l0.length : Int) x13_1 = some r) ∧ Aside0 (kq ≤ k) ∧ Drawn0 w w')
    case atStart => exact ⟨(0), (by first | rfl | (simp; done) | (simp [*]; done)), H', ⟨Nat.le_refl _⟩, by repeat (first | exact Drawn0.refl _ | apply Drawn0.step)⟩
    case round =>
      clear H'
      try clear c1
      try clear p2
      try clear c3
      try clear c3b0
      try clear c3b1
      try clear c3b2
      obtain ⟨x13_1, rfl, HA, HK1, ⟨m1, rfl⟩⟩ := hrel
      cases gk with
      | zero => exact absurd HA.out (by simp [spec_l1Same.l0])
      | succ k1 =>
        have H := HA.out
        clear HA
        simp only [spec_l1Same.l0] at H
        by_cases c4 : x13_1 < (l0.length : Int)
        · rw [if_pos c4] at H
          have c4b0 : decide (x13_1 < (l0.length : Int)) = true := decide_eq_true c4
          clear c4
          by_cases c5 : 0 ≤ x13_1
          · rw [if_pos c5] at H
            have c5b0 : decide (0 ≤ x13_1) = true := decide_eq_true c5
            clear c5
            by_cases c6 : x13_1 < (l0.length : Int)
            · rw [if_pos c6] at H
              have c6b0 : decide (x13_1 < (l0.length : Int)) = true := decide_eq_true c6
              clear c6
              by_cases c7 : x13_1 < (l1.length : Int)
              · rw [if_pos c7] at H
                have c7b0 : decide (x13_1 < (l1.length : Int)) = true := decide_eq_true c7
                clear c7
                by_cases c8 : (rd l0 x13_1) = (rd l1 x13_1)
                · rw [if_pos c8] at H
                  have c8b0 : ((rd l0 x13_1) == (rd l1 x13_1)) = true := beq_iff_eq.mpr c8
                  have c8b1 : ((rd l0 x13_1) != (rd l1 x13_1)) = false := bne_eq_false_iff_eq.mpr c8
                  clear c8
                  have H' := Aside0.mk H
                  clear H
                  have p149 : 0 ≤ (x13_1 : Int) := of_decide_eq_true (by first | (with_reducible assumption) | assumption)
                  have q149 : x13_1 < (l0.length : Int) := of_decide_eq_true (by first | (with_reducible assumption) | assumption)
                  obtain ⟨ad149, e149, hx149_0⟩ := Kd.at_int HR0.out x13_1 p149 q149
                  cases e149
                  replace p149 := eq_true p149
                  replace q149 := eq_true q149
                  have p150 : 0 ≤ (x13_1 : Int) := of_decide_eq_true (by first | (with_reducible assumption) | assumption)
                  have q150 : x13_1 < (l1.length : Int) := of_decide_eq_true (by first | (with_reducible assumption) | assumption)
                  obtain ⟨ad150, e150, hx150_0⟩ := Kd.at_int HR1.out x13_1 p150 q150
                  cases e150
                  replace p150 := eq_true p150
                  replace q150 := eq_true q150
                  go_wp2
                  repeat (go_quiet (fail); try go_wp2)
                  go_roundg k1
                  case measure => have := HK1.out; omega
                  case rel => exact ⟨(wrap64 (x13_1 + 1)), (by first | rfl | (simp; done) | (simp [*]; done)), H', ⟨by have := HK1.out; omega⟩, by repeat (first | exact Drawn0.refl _ | apply Drawn0.step)⟩
                · rw [if_neg c8] at H
                  have c8b0 : ((rd l0 x13_1) == (rd l1 x13_1)) = false := beq_eq_false_iff_ne.mpr c8
                  have c8b1 : ((rd l0 x13_1) != (rd l1 x13_1)) = true := bne_iff_ne.mpr c8
                  obtain rfl := Option.some.inj H
                  have p149 : 0 ≤ (x13_1 : Int) := of_decide_eq_true (by first | (with_reducible assumption) | assumption)
                  have q149 : x13_1 < (l0.length : Int) := of_decide_eq_true (by first | (with_reducible assumption) | assumption)
                  obtain ⟨ad149, e149, hx149_0⟩ := Kd.at_int HR0.out x13_1 p149 q149
                  cases e149
                  replace p149 := eq_true p149
                  replace q149 := eq_true q149
                  have p150 : 0 ≤ (x13_1 : Int) := of_decide_eq_true (by first | (with_reducible assumption) | assumption)
                  have q150 : x13_1 < (l1.length : Int) := of_decide_eq_true (by first | (with_reducible assumption) | assumption)
                  obtain ⟨ad150, e150, hx150_0⟩ := Kd.at_int HR1.out x13_1 p150 q150
                  cases e150
                  replace p150 := eq_true p150
                  replace q150 := eq_true q150
                  go_wp2
                  repeat (go_quiet (fail); try go_wp2)
                  go_ret
                  exact ⟨by first | rfl | (simp; done) | (simp [*]; done), by repeat (first | exact Drawn0.refl _ | apply Drawn0.step)⟩
              · rw [if_neg c7] at H
                exact absurd H (by simp)
            · rw [if_neg c6] at H
              exact absurd H (by simp)
          · rw [if_neg c5] at H
            exact absurd H (by simp)
        · rw [if_neg c4] at H
          have c4b0 : decide (x13_1 < (l0.length : Int)) = false := decide_eq_false c4
          clear c4
          obtain rfl := Option.some.inj H
          go_wp2
          repeat (go_quiet (fail); try go_wp2)
          go_ret
          exact ⟨by first | rfl | (simp; done) | (simp [*]; done), by repeat (first | exact Drawn0.refl _ | apply Drawn0.step)⟩
  · rw [if_neg c3] at H
    have c3b0 : ((l0.length : Int) == (l1.length : Int)) = false := beq_eq_false_iff_ne.mpr c3
    have c3b1 : ((l0.length : Int) != (l1.length : Int)) = true := bne_iff_ne.mpr c3
    have c3b2 : (l0.length == l1.length) = false := by first | simpa using c3 | (simp at c3 ⊢; omega)
    obtain rfl := Option.some.inj H
    go_enter Try.func76, Try.ntmps76
    go_wp2
    repeat (go_quiet (fail); try go_wp2)
    go_ret
    exact ⟨by first | rfl | (simp; done) | (simp [*]; done), by repeat (first | exact Drawn0.refl _ | apply Drawn0.step)⟩

/-! ### spec_l1Own: function 78 -/
def spec_l1Own.f (l0 : List Int) : Option (List Int) := (some (([] : List Int) : List Int)).bind fun y151 => (if y151.length + l0.length < 17592186044416 then (some (y151 ++ l0)) else (none))
set_option maxHeartbeats 8000000 in
set_option maxRecDepth 100000 in
theorem spec_l1Own.calls (A0 : Option Addr) (c0 : Nat) (l0 : List Int) (r : List Int) (w : World) (hr0 : Kd.C (Kd.int .i64) w A0 l0.length l0) (hc0 : l0.length ≤ c0) (h : spec_l1Own.f l0 = some r) :
    Calls Try.prog 78 #[.slice A0 l0.length c0] w fun e w' => ∃ v0_ : Value, e = .returned (v0_) ∧ Kd.R (Kd.int .i64) 3 w' w.heap.size (fun _ => True) v0_ r ∧ Below w.heap.size w w' := by
  have HR0 := Aside0.mk hr0
  have HC0 := Aside0.mk hc0
  clear hr0 hc0
  have HB := Aside0.mk (Below.refl w.heap.size w)
  have H : ((some (([] : List Int) : List Int)).bind fun y151 => (if y151.length + l0.length < 17592186044416 then (some (y151 ++ l0)) else (none))) = some r := h
  clear h
  obtain ⟨y151, hy151⟩ : ∃ y_ : List Int, y_ = (([] : List Int)) := ⟨_, rfl⟩
  replace H : (if y151.length + l0.length < 17592186044416 then (some (y151 ++ l0)) else (none)) = some r := by first | (rw [hy151]; with_reducible exact H) | (have H2_ := (Option.bind_some _ _).symm.trans H; rw [hy151]; with_reducible exact H2_) | (have H2_ := (Option.bind_some _ _).symm.trans H; with_reducible exact H2_) | with_reducible exact H | (rw [hy151]; exact H) | exact H
  have Ny151 := Aside0.mk hy151
  clear hy151
  by_cases c2 : y151.length + l0.length < 17592186044416
  · rw [if_pos c2] at H
    have LMc2 := Aside0.mk c2
    clear c2
    obtain ⟨y154, hy154⟩ : ∃ y_ : List Int, y_ = (y151 ++ l0) := ⟨_, rfl⟩
    replace H : (some y154) = some r := by first | (rw [hy154]; with_reducible exact H) | (have H2_ := (Option.bind_some _ _).symm.trans H; rw [hy154]; with_reducible exact H2_) | (have H2_ := (Option.bind_some _ _).symm.trans H; with_reducible exact H2_) | with_reducible exact H | (rw [hy154]; exact H) | exact H
    have Ny154 := Aside0.mk hy154
    clear hy154
    obtain rfl := Option.some.inj H
    go_enter Try.func78, Try.ntmps78
    go_wp2_with (first | ((with_reducible refine gate_dst (N := 3) rfl ?_); refine Kd.R_lit (Kd.int .i64) _ 3 ?hg (N := 3) ?hd (xs := ([] : List Int)) (inner := []) (ok := fun _ => True) (okp := fun _ => True) ?hr ?hp (fun _ hk => hk) trivial (Below.refl _ _) (Nat.le_refl _) (by simp) ?_; (case hd => rfl); (case hg => rfl); (case hr => first | (go_simp; done) | (go_simp; rfl)); (case hp => exact (Reps.none _ _)); intro v152 w3 ho4 hb hg_ hnew_; clear hg_ hnew_; (first | rw [← Ny151.out] at ho4 | (simp only [Int.reduceToNat] at ho4; rw [← Ny151.out] at ho4)); have n0_ := Aside0.mk (Kd.R_lower ho4 (below_size (by repeat (first | (with_reducible first | exact HB.out | apply below_alloc | apply pw_below_drewN | apply below_drew1) | exact HB.out)))); have n1_ := Aside0.mk (below_step (by repeat (first | (with_reducible first | exact HB.out | apply below_alloc | apply pw_below_drewN | apply below_drew1) | exact HB.out)) hb); clear HB; have HO153 := n0_; have HB := n1_; clear n0_ n1_; clear hb ho4) | ((with_reducible refine gate_builtin (b := .append) (xs := #[.tmp 3, .tmp 4]) rfl ?_); at_builtin; refine Kd.R_append_rows (Kd.int .i64) (w0 := w) w.heap.size rfl (.tmp 3) (.tmp 4) 51 3 (.int .i64 0) 8 rfl Try.underlying51 info3 rfl (by decide) (by omega) v152 y151 l0 _ _ _ (fun _ => True) (fun _ => False) rfl rfl ?aO ?aR (fun _ _ h => h) (fun _ h => h.elim) ?aF ?aB ?aS ?aL ?_; (case aR => repeat (first | exact (Kd.C_below HR0.out HB.out) | (with_reducible refine Kd.C_alloc ?_ _) | (with_reducible refine Kd.C_drewN ?_ _) | (with_reducible refine Kd.C_drew ?_))); (case aB => exact (by repeat (first | (with_reducible first | exact HB.out | apply below_alloc | apply pw_below_drewN | apply below_drew1) | exact HB.out))); (case aF => exact (fun _ _ => trivial)); (case aO => exact (by (with_reducible repeat (first | apply Kd.R_alloc | apply Kd.R_drewN | apply Kd.R_drew)); exact HO153.out)); (case aS => exact (below_size (by repeat (first | (with_reducible first | exact HB.out | apply below_alloc | apply pw_below_drewN | apply below_drew1) | exact HB.out)))); (case aL => have := LMc2.out; omega); intro v155 w5 ho hb hg hat; rw [← Ny154.out] at ho; have n0_ := Aside0.mk (hb); have n1_ := Aside0.mk (ho); clear HB; clear HO153; have HB := n0_; have HO156 := n1_; clear n0_ n1_; clear ho hb hg hat))
    go_ret
    exact ⟨_, by first | rfl | (simp [errW_none, errW_some] <;> rfl) | (simp [*, errW_none, errW_some] <;> rfl), by (with_reducible repeat (first | apply Kd.R_alloc | apply Kd.R_drewN | apply Kd.R_drew)); exact HO156.out, by repeat (first | (with_reducible first | exact HB.out | apply below_alloc | apply pw_below_drewN | apply below_drew1) | exact HB.out)⟩
  · rw [if_neg c2] at H
    exact absurd H (by simp)

/-! ### spec_WithDanger: function 45 -/
/-- The rows that are left, whether the new one stands in it, what is built. None inside: it was there. -/
def spec_WithDanger.go (k : Nat) (dd : List Int) : List (List Int) → Bool → List (List Int) → Option (Option (Bool × List (List Int)))
  | [], put, out => some (some (put, out))
  | x :: xs, put, out => (spec_l1Same.f k x dd).bind fun t => if t = true then some none else
      if out.length < 1048576 ∧ x.length < 1048576 then (if put = true then spec_WithDanger.go k dd xs true (out ++ [x]) else
        (spec_keBefore.f dd x).bind fun b => if b = true then spec_WithDanger.go k dd xs true (out ++ [dd] ++ [x]) else spec_WithDanger.go k dd xs false (out ++ [x])) else none
def spec_WithDanger.fin (n s : Int) (dd : List Int) : Option (Bool × List (List Int)) → Option (Int × List (List Int) × Int × Bool)
  | none => some (0, ([] : List (List Int)), 0, false)
  | some (true, out) => some (n, out, s, true)
  | some (false, out) => if out.length < 1048576 then some (n, out ++ [dd], s, true) else none
def spec_WithDanger.f (k : Nat) (a0_0 : Int) (l0_1 : List (List Int)) (a0_2 : Int) (a1 : Int) (a2 : Int) : Option (Int × List (List Int) × Int × Bool) :=
  (spec_keGood.f k a0_0 l0_1 a0_2).bind fun t => if t = true then ((spec_l1In.f a1 0 (wrap64 (a0_0 - 1))).bind fun t1 => if t1 = true then ((spec_l1In.f a2 0 (wrap64 (a0_0 - 1))).bind fun t2 => if t2 = true then (if a1 = a2 then some (0, ([] : List (List Int)), 0, false) else
    (spec_l1Least.f a1 a2).bind fun lo => (spec_l1Most.f a1 a2).bind fun hi => (spec_WithDanger.go k [lo, hi] l0_1 false []).bind fun o => spec_WithDanger.fin a0_0 a0_2 [lo, hi] o) else some (0, ([] : List (List Int)), 0, false)) else some (0, ([] : List (List Int)), 0, false)) else some (0, ([] : List (List Int)), 0, false)
theorem spec_WithDanger.own (l : List Int) (h : l.length < 1048576) : spec_l1Own.f l = some l := by
  unfold spec_l1Own.f
  rw [Option.bind_some, if_pos (by simp; omega), List.nil_append]
theorem spec_WithDanger.rdget (l : List (List Int)) (i : Nat) (h : i < l.length) : rd_L1 l (i : Int) = l[i] := by
  simp [rd_L1, List.getD_eq_getElem?_getD, h]
theorem spec_WithDanger.lit_event {P : Program} {ops : Array Oper} {rest : List Oper} {o : Oper} {a : Act} {Q : Exit → Act → World → Prop} {W : World} (hgd : o.guard = none) {N : Tmp} (_hd : o.dst = some N) {cs : Array Value} {t : TypeId} {n : Nat}
    (hrun : (execOp a.eval o).run P W = .ok (.value (.slice (some ⟨W.heap.size, 0, none⟩) n n)) (W.alloc (.cells cs t (0, 0))))
    (h : ∀ g, g = W.heap.size → ∀ w1, w1.heap[g]? = some (.cells cs t (0, 0)) → Below W.heap.size W w1 → wpList P ops Q rest (a.put o.dst (.slice (some ⟨g, 0, none⟩) n n)) w1) : wpList P ops Q (o :: rest) a W :=
  Kd.event_run hgd hrun (h _ rfl _ (blk_new W _) (below_alloc (Below.refl _ _) _))
/-- A block of two ints, as a row. -/
theorem spec_WithDanger.row2 {w : World} {g N0 : Nat} {x y : Int} (h : w.heap[g]? = some (.cells #[.int .i64 x, .int .i64 y] 3 (0, 0))) (hN : N0 ≤ g) : Kd.R (Kd.int .i64) 3 w N0 (fun k => k = g) (.slice (some ⟨g, 0, none⟩) 2 2) [x, y] :=
  Kd.R_of_own (enc := Value.int .i64) (h1 := fun _ => rfl) ⟨rfl, .inr ⟨g, 2, _, rfl, hN, h, Nat.le_refl _, by decide, rfl, rfl⟩⟩ (fun k hk => by injection hk with hk; exact hk.symm)
theorem spec_WithDanger.row2C {w : World} {g : Nat} {x y : Int} (h : w.heap[g]? = some (.cells #[.int .i64 x, .int .i64 y] 3 (0, 0))) : Kd.C (Kd.int .i64) w (some ⟨g, 0, none⟩) 2 [x, y] := (Kd.R_reads' (spec_WithDanger.row2 h (Nat.zero_le g))).2.2
theorem spec_WithDanger.infoS : (Try.prog.info? 51).map (fun i => (i.zero, i.size, i.bytes)) = some (some (.slice none 0 0), 1, 24) := by kernel_rfl
set_option maxHeartbeats 8000000 in
set_option maxRecDepth 100000 in
theorem spec_WithDanger.calls (k : Nat) (a0_0 : Int) (A0_1 : Option Addr) (c0_1 : Nat) (l0_1 : List (List Int)) (a0_2 : Int) (a1 : Int) (a2 : Int) (r1 : Int) (r2 : List (List Int)) (r3 : Int) (r4 : Bool) (w : World) (hr0_1 : Kd.C (Kd.slice 3 (Kd.int .i64)) w A0_1 l0_1.length l0_1) (hc0_1 : l0_1.length ≤ c0_1) (h : spec_WithDanger.f k a0_0 l0_1 a0_2 a1 a2 = some (r1, r2, r3, r4)) :
    Calls Try.prog 45 #[.agg #[.int .i64 a0_0, .slice A0_1 l0_1.length c0_1, .int .i64 a0_2], .int .i64 a1, .int .i64 a2] w fun e w' => ∃ v0_ : Value, e = .returned (.tuple #[.agg #[.int .i64 r1, v0_, .int .i64 r3], .bool r4]) ∧ Kd.S (Kd.slice 3 (Kd.int .i64)) 51 w' w.heap.size (fun _ => True) v0_ r2 ∧ Below w.heap.size w w' := by
  have hu27 := Try.underlying27
  have HR := Aside0.mk hr0_1
  have HC := Aside0.mk hc0_1
  clear hr0_1 hc0_1
  have HB := Aside0.mk (Below.refl w.heap.size w)
  have HH : ((spec_keGood.f k a0_0 l0_1 a0_2).bind fun t => if t = true then ((spec_l1In.f a1 0 (wrap64 (a0_0 - 1))).bind fun t1 => if t1 = true then ((spec_l1In.f a2 0 (wrap64 (a0_0 - 1))).bind fun t2 => if t2 = true then (if a1 = a2 then some (0, ([] : List (List Int)), 0, false) else
    (spec_l1Least.f a1 a2).bind fun lo => (spec_l1Most.f a1 a2).bind fun hi => (spec_WithDanger.go k [lo, hi] l0_1 false []).bind fun o => spec_WithDanger.fin a0_0 a0_2 [lo, hi] o) else some (0, ([] : List (List Int)), 0, false)) else some (0, ([] : List (List Int)), 0, false)) else some (0, ([] : List (List Int)), 0, false)) = some (r1, r2, r3, r4) := h
  clear h
  obtain ⟨t, A10, HH⟩ := Option.bind_eq_some_iff.mp HH
  have A1 := Aside0.mk A10
  clear A10
  have HH_ := Aside0.mk HH
  clear HH
  go_enter Try.func45, Try.ntmps45
  go_upto_region 1 with (first | ((with_reducible refine gate_dst (N := 3) rfl ?_); refine box_event ?hg (N := 3) ?hd (cs := #[.int .i64 a0_0, .slice A0_1 l0_1.length c0_1, .int .i64 a0_2]) (t := 27) ?hr ?_; (case hd => rfl); (case hg => rfl); (case hr => first | (go_simp; done) | (go_simp; rfl)); intro g3 hg w3 hbox hb; have Y3 := Aside0.mk hbox; have GY3 := Aside0.mk ((by rw [hg]; exact below_size HB.out) : w.heap.size ≤ g3); replace HB := Aside0.mk (below_step HB.out hb); clear hb hbox hg) | ((with_reducible refine gate_dst (N := 6) rfl ?_); refine box_event ?hg (N := 6) ?hd (cs := #[.int .i64 0, .slice none 0 0, .int .i64 0]) (t := 27) ?hr ?_; (case hd => rfl); (case hg => rfl); (case hr => first | (go_simp; done) | (go_simp; rfl)); intro g6 hg w6 hbox hb; have Y6 := Aside0.mk hbox; have GY6 := Aside0.mk ((by rw [hg]; exact below_size HB.out) : w.heap.size ≤ g6); have nY6Y3_ := Aside0.mk (Nat.ne_of_lt (Nat.lt_of_lt_of_le (blk_lt Y3.out) (Nat.le_of_eq hg.symm)) : g3 ≠ g6); replace Y3 := Aside0.mk (blk_below (g := g3) Y3.out hb); replace HB := Aside0.mk (below_step HB.out hb); clear hb hbox hg))
  (try simp only [Act.put, List.setIfInBounds_toArray, List.set_cons_zero, List.set_cons_succ])
  have hp0 : w6.cell? ⟨g3, 0, none⟩ = some (.int .i64 a0_0) := (blk_cell Y3.out 0).trans rfl; have hp1 : w6.cell? ⟨g3, 1, none⟩ = some (.slice A0_1 l0_1.length c0_1) := (blk_cell Y3.out 1).trans rfl; have hp2 : w6.cell? ⟨g3, 2, none⟩ = some (.int .i64 a0_2) := (blk_cell Y3.out 2).trans rfl; have hz60 : w6.cell? ⟨g6, 0, none⟩ = some (.int .i64 0) := (blk_cell Y6.out 0).trans rfl; have hf60 := blk_frozen Y6.out 0; have hz61 : w6.cell? ⟨g6, 1, none⟩ = some (.slice none 0 0) := (blk_cell Y6.out 1).trans rfl; have hf61 := blk_frozen Y6.out 1; have hz62 : w6.cell? ⟨g6, 2, none⟩ = some (.int .i64 0) := (blk_cell Y6.out 2).trans rfl; have hf62 := blk_frozen Y6.out 2
  cases t with
  | false =>
    have H := ((if_neg (by decide)).symm.trans HH_.out)
    simp only [Option.some.injEq, Prod.mk.injEq] at H
    obtain ⟨rfl, rfl, rfl, rfl⟩ := H
    clear HH_
    go_wp2_with ((go_at_call 48; refine (spec_keGood.calls k a0_0 A0_1 c0_1 l0_1 a0_2 false _ (Kd.C_below HR.out HB.out) HC.out A1.out).mono ?_; rintro e wB ⟨rfl, hb⟩; replace Y3 := Aside0.mk (blk_below (g := g3) Y3.out hb); replace Y6 := Aside0.mk (blk_below (g := g6) Y6.out hb); replace HB := Aside0.mk (below_step HB.out hb); clear hb; clear hp0 hp1 hp2 hz60 hz61 hz62 hf60 hf61 hf62; have hp0 : wB.cell? ⟨g3, 0, none⟩ = some (.int .i64 a0_0) := (blk_cell Y3.out 0).trans rfl; have hp1 : wB.cell? ⟨g3, 1, none⟩ = some (.slice A0_1 l0_1.length c0_1) := (blk_cell Y3.out 1).trans rfl; have hp2 : wB.cell? ⟨g3, 2, none⟩ = some (.int .i64 a0_2) := (blk_cell Y3.out 2).trans rfl; have hz60 : wB.cell? ⟨g6, 0, none⟩ = some (.int .i64 0) := (blk_cell Y6.out 0).trans rfl; have hf60 := blk_frozen Y6.out 0; have hz61 : wB.cell? ⟨g6, 1, none⟩ = some (.slice none 0 0) := (blk_cell Y6.out 1).trans rfl; have hf61 := blk_frozen Y6.out 1; have hz62 : wB.cell? ⟨g6, 2, none⟩ = some (.int .i64 0) := (blk_cell Y6.out 2).trans rfl; have hf62 := blk_frozen Y6.out 2))
    refine bodyPost_ret (results_ct rfl _ _ g6 27 #[.int .i64 0, .slice none 0 0, .int .i64 0] (0, 0) _ rfl (by refine blk_put (cs := #[.int .i64 0, .slice none 0 0, .int .i64 0]) ?_ 2 _ rfl; refine blk_put (cs := #[.int .i64 0, .slice none 0 0, .int .i64 0]) ?_ 1 _ rfl; refine blk_put (cs := #[.int .i64 0, .slice none 0 0, .int .i64 0]) ?_ 0 _ rfl; exact Y6.out) Try.underlying27 rfl (by kernel_rfl)) rfl ?_
    exact ⟨_, rfl, Kd.S_nil _ _ _ _ _, by repeat (first | exact HB.out | refine below_set ?_ GY6.out)⟩
  | true =>
    have HH := HH_.out
    rw [if_pos rfl] at HH
    clear HH_
    obtain ⟨t1, A20, HH⟩ := Option.bind_eq_some_iff.mp HH
    have A2 := Aside0.mk A20
    clear A20
    have HH_ := Aside0.mk HH
    clear HH
    cases t1 with
    | false =>
      have H := ((if_neg (by decide)).symm.trans HH_.out)
      simp only [Option.some.injEq, Prod.mk.injEq] at H
      obtain ⟨rfl, rfl, rfl, rfl⟩ := H
      clear HH_
      go_wp2_with (first | (go_at_call 48; refine (spec_keGood.calls k a0_0 A0_1 c0_1 l0_1 a0_2 true _ (Kd.C_below HR.out HB.out) HC.out A1.out).mono ?_; rintro e wB ⟨rfl, hb⟩; replace Y3 := Aside0.mk (blk_below (g := g3) Y3.out hb); replace Y6 := Aside0.mk (blk_below (g := g6) Y6.out hb); replace HB := Aside0.mk (below_step HB.out hb); clear hb; clear hp0 hp1 hp2 hz60 hz61 hz62 hf60 hf61 hf62; have hp0 : wB.cell? ⟨g3, 0, none⟩ = some (.int .i64 a0_0) := (blk_cell Y3.out 0).trans rfl; have hp1 : wB.cell? ⟨g3, 1, none⟩ = some (.slice A0_1 l0_1.length c0_1) := (blk_cell Y3.out 1).trans rfl; have hp2 : wB.cell? ⟨g3, 2, none⟩ = some (.int .i64 a0_2) := (blk_cell Y3.out 2).trans rfl; have hz60 : wB.cell? ⟨g6, 0, none⟩ = some (.int .i64 0) := (blk_cell Y6.out 0).trans rfl; have hf60 := blk_frozen Y6.out 0; have hz61 : wB.cell? ⟨g6, 1, none⟩ = some (.slice none 0 0) := (blk_cell Y6.out 1).trans rfl; have hf61 := blk_frozen Y6.out 1; have hz62 : wB.cell? ⟨g6, 2, none⟩ = some (.int .i64 0) := (blk_cell Y6.out 2).trans rfl; have hf62 := blk_frozen Y6.out 2) | (go_at_call 73; with_reducible refine (spec_l1In.calls a1 0 (wrap64 (a0_0 - 1)) false _ A2.out).mono ?_; rintro e wi1 ⟨rfl, hd⟩; have hb := hd.below; clear hd; replace Y3 := Aside0.mk (blk_below (g := g3) Y3.out hb); replace Y6 := Aside0.mk (blk_below (g := g6) Y6.out hb); replace HB := Aside0.mk (below_step HB.out hb); clear hb; clear hp0 hp1 hp2 hz60 hz61 hz62 hf60 hf61 hf62; have hp0 : wi1.cell? ⟨g3, 0, none⟩ = some (.int .i64 a0_0) := (blk_cell Y3.out 0).trans rfl; have hp1 : wi1.cell? ⟨g3, 1, none⟩ = some (.slice A0_1 l0_1.length c0_1) := (blk_cell Y3.out 1).trans rfl; have hp2 : wi1.cell? ⟨g3, 2, none⟩ = some (.int .i64 a0_2) := (blk_cell Y3.out 2).trans rfl; have hz60 : wi1.cell? ⟨g6, 0, none⟩ = some (.int .i64 0) := (blk_cell Y6.out 0).trans rfl; have hf60 := blk_frozen Y6.out 0; have hz61 : wi1.cell? ⟨g6, 1, none⟩ = some (.slice none 0 0) := (blk_cell Y6.out 1).trans rfl; have hf61 := blk_frozen Y6.out 1; have hz62 : wi1.cell? ⟨g6, 2, none⟩ = some (.int .i64 0) := (blk_cell Y6.out 2).trans rfl; have hf62 := blk_frozen Y6.out 2))
      refine bodyPost_ret (results_ct rfl _ _ g6 27 #[.int .i64 0, .slice none 0 0, .int .i64 0] (0, 0) _ rfl (by refine blk_put (cs := #[.int .i64 0, .slice none 0 0, .int .i64 0]) ?_ 2 _ rfl; refine blk_put (cs := #[.int .i64 0, .slice none 0 0, .int .i64 0]) ?_ 1 _ rfl; refine blk_put (cs := #[.int .i64 0, .slice none 0 0, .int .i64 0]) ?_ 0 _ rfl; exact Y6.out) Try.underlying27 rfl (by kernel_rfl)) rfl ?_
      exact ⟨_, rfl, Kd.S_nil _ _ _ _ _, by repeat (first | exact HB.out | refine below_set ?_ GY6.out)⟩
    | true =>
      have HH := HH_.out
      rw [if_pos rfl] at HH
      clear HH_
      obtain ⟨t2, A30, HH⟩ := Option.bind_eq_some_iff.mp HH
      have A3 := Aside0.mk A30
      clear A30
      have HH_ := Aside0.mk HH
      clear HH
      cases t2 with
      | false =>
        have H := ((if_neg (by decide)).symm.trans HH_.out)
        simp only [Option.some.injEq, Prod.mk.injEq] at H
        obtain ⟨rfl, rfl, rfl, rfl⟩ := H
        clear HH_
        go_wp2_with (first | (go_at_call 48; refine (spec_keGood.calls k a0_0 A0_1 c0_1 l0_1 a0_2 true _ (Kd.C_below HR.out HB.out) HC.out A1.out).mono ?_; rintro e wB ⟨rfl, hb⟩; replace Y3 := Aside0.mk (blk_below (g := g3) Y3.out hb); replace Y6 := Aside0.mk (blk_below (g := g6) Y6.out hb); replace HB := Aside0.mk (below_step HB.out hb); clear hb; clear hp0 hp1 hp2 hz60 hz61 hz62 hf60 hf61 hf62; have hp0 : wB.cell? ⟨g3, 0, none⟩ = some (.int .i64 a0_0) := (blk_cell Y3.out 0).trans rfl; have hp1 : wB.cell? ⟨g3, 1, none⟩ = some (.slice A0_1 l0_1.length c0_1) := (blk_cell Y3.out 1).trans rfl; have hp2 : wB.cell? ⟨g3, 2, none⟩ = some (.int .i64 a0_2) := (blk_cell Y3.out 2).trans rfl; have hz60 : wB.cell? ⟨g6, 0, none⟩ = some (.int .i64 0) := (blk_cell Y6.out 0).trans rfl; have hf60 := blk_frozen Y6.out 0; have hz61 : wB.cell? ⟨g6, 1, none⟩ = some (.slice none 0 0) := (blk_cell Y6.out 1).trans rfl; have hf61 := blk_frozen Y6.out 1; have hz62 : wB.cell? ⟨g6, 2, none⟩ = some (.int .i64 0) := (blk_cell Y6.out 2).trans rfl; have hf62 := blk_frozen Y6.out 2) | (go_at_call 73; with_reducible refine (spec_l1In.calls a1 0 (wrap64 (a0_0 - 1)) true _ A2.out).mono ?_; rintro e wi1 ⟨rfl, hd⟩; have hb := hd.below; clear hd; replace Y3 := Aside0.mk (blk_below (g := g3) Y3.out hb); replace Y6 := Aside0.mk (blk_below (g := g6) Y6.out hb); replace HB := Aside0.mk (below_step HB.out hb); clear hb; clear hp0 hp1 hp2 hz60 hz61 hz62 hf60 hf61 hf62; have hp0 : wi1.cell? ⟨g3, 0, none⟩ = some (.int .i64 a0_0) := (blk_cell Y3.out 0).trans rfl; have hp1 : wi1.cell? ⟨g3, 1, none⟩ = some (.slice A0_1 l0_1.length c0_1) := (blk_cell Y3.out 1).trans rfl; have hp2 : wi1.cell? ⟨g3, 2, none⟩ = some (.int .i64 a0_2) := (blk_cell Y3.out 2).trans rfl; have hz60 : wi1.cell? ⟨g6, 0, none⟩ = some (.int .i64 0) := (blk_cell Y6.out 0).trans rfl; have hf60 := blk_frozen Y6.out 0; have hz61 : wi1.cell? ⟨g6, 1, none⟩ = some (.slice none 0 0) := (blk_cell Y6.out 1).trans rfl; have hf61 := blk_frozen Y6.out 1; have hz62 : wi1.cell? ⟨g6, 2, none⟩ = some (.int .i64 0) := (blk_cell Y6.out 2).trans rfl; have hf62 := blk_frozen Y6.out 2) | (go_at_call 73; with_reducible refine (spec_l1In.calls a2 0 (wrap64 (a0_0 - 1)) false _ A3.out).mono ?_; rintro e wi2 ⟨rfl, hd⟩; have hb := hd.below; clear hd; replace Y3 := Aside0.mk (blk_below (g := g3) Y3.out hb); replace Y6 := Aside0.mk (blk_below (g := g6) Y6.out hb); replace HB := Aside0.mk (below_step HB.out hb); clear hb; clear hp0 hp1 hp2 hz60 hz61 hz62 hf60 hf61 hf62; have hp0 : wi2.cell? ⟨g3, 0, none⟩ = some (.int .i64 a0_0) := (blk_cell Y3.out 0).trans rfl; have hp1 : wi2.cell? ⟨g3, 1, none⟩ = some (.slice A0_1 l0_1.length c0_1) := (blk_cell Y3.out 1).trans rfl; have hp2 : wi2.cell? ⟨g3, 2, none⟩ = some (.int .i64 a0_2) := (blk_cell Y3.out 2).trans rfl; have hz60 : wi2.cell? ⟨g6, 0, none⟩ = some (.int .i64 0) := (blk_cell Y6.out 0).trans rfl; have hf60 := blk_frozen Y6.out 0; have hz61 : wi2.cell? ⟨g6, 1, none⟩ = some (.slice none 0 0) := (blk_cell Y6.out 1).trans rfl; have hf61 := blk_frozen Y6.out 1; have hz62 : wi2.cell? ⟨g6, 2, none⟩ = some (.int .i64 0) := (blk_cell Y6.out 2).trans rfl; have hf62 := blk_frozen Y6.out 2))
        refine bodyPost_ret (results_ct rfl _ _ g6 27 #[.int .i64 0, .slice none 0 0, .int .i64 0] (0, 0) _ rfl (by refine blk_put (cs := #[.int .i64 0, .slice none 0 0, .int .i64 0]) ?_ 2 _ rfl; refine blk_put (cs := #[.int .i64 0, .slice none 0 0, .int .i64 0]) ?_ 1 _ rfl; refine blk_put (cs := #[.int .i64 0, .slice none 0 0, .int .i64 0]) ?_ 0 _ rfl; exact Y6.out) Try.underlying27 rfl (by kernel_rfl)) rfl ?_
        exact ⟨_, rfl, Kd.S_nil _ _ _ _ _, by repeat (first | exact HB.out | refine below_set ?_ GY6.out)⟩
      | true =>
        have HH := HH_.out
        rw [if_pos rfl] at HH
        clear HH_
        by_cases he : a1 = a2
        · rw [if_pos he] at HH
          have HH_ := Aside0.mk HH
          clear HH
          have he2 : (a1 == a2) = true := by simpa using he
          have H := HH_.out
          simp only [Option.some.injEq, Prod.mk.injEq] at H
          obtain ⟨rfl, rfl, rfl, rfl⟩ := H
          clear HH_
          go_wp2_with (first | (go_at_call 48; refine (spec_keGood.calls k a0_0 A0_1 c0_1 l0_1 a0_2 true _ (Kd.C_below HR.out HB.out) HC.out A1.out).mono ?_; rintro e wB ⟨rfl, hb⟩; replace Y3 := Aside0.mk (blk_below (g := g3) Y3.out hb); replace Y6 := Aside0.mk (blk_below (g := g6) Y6.out hb); replace HB := Aside0.mk (below_step HB.out hb); clear hb; clear hp0 hp1 hp2 hz60 hz61 hz62 hf60 hf61 hf62; have hp0 : wB.cell? ⟨g3, 0, none⟩ = some (.int .i64 a0_0) := (blk_cell Y3.out 0).trans rfl; have hp1 : wB.cell? ⟨g3, 1, none⟩ = some (.slice A0_1 l0_1.length c0_1) := (blk_cell Y3.out 1).trans rfl; have hp2 : wB.cell? ⟨g3, 2, none⟩ = some (.int .i64 a0_2) := (blk_cell Y3.out 2).trans rfl; have hz60 : wB.cell? ⟨g6, 0, none⟩ = some (.int .i64 0) := (blk_cell Y6.out 0).trans rfl; have hf60 := blk_frozen Y6.out 0; have hz61 : wB.cell? ⟨g6, 1, none⟩ = some (.slice none 0 0) := (blk_cell Y6.out 1).trans rfl; have hf61 := blk_frozen Y6.out 1; have hz62 : wB.cell? ⟨g6, 2, none⟩ = some (.int .i64 0) := (blk_cell Y6.out 2).trans rfl; have hf62 := blk_frozen Y6.out 2) | (go_at_call 73; with_reducible refine (spec_l1In.calls a1 0 (wrap64 (a0_0 - 1)) true _ A2.out).mono ?_; rintro e wi1 ⟨rfl, hd⟩; have hb := hd.below; clear hd; replace Y3 := Aside0.mk (blk_below (g := g3) Y3.out hb); replace Y6 := Aside0.mk (blk_below (g := g6) Y6.out hb); replace HB := Aside0.mk (below_step HB.out hb); clear hb; clear hp0 hp1 hp2 hz60 hz61 hz62 hf60 hf61 hf62; have hp0 : wi1.cell? ⟨g3, 0, none⟩ = some (.int .i64 a0_0) := (blk_cell Y3.out 0).trans rfl; have hp1 : wi1.cell? ⟨g3, 1, none⟩ = some (.slice A0_1 l0_1.length c0_1) := (blk_cell Y3.out 1).trans rfl; have hp2 : wi1.cell? ⟨g3, 2, none⟩ = some (.int .i64 a0_2) := (blk_cell Y3.out 2).trans rfl; have hz60 : wi1.cell? ⟨g6, 0, none⟩ = some (.int .i64 0) := (blk_cell Y6.out 0).trans rfl; have hf60 := blk_frozen Y6.out 0; have hz61 : wi1.cell? ⟨g6, 1, none⟩ = some (.slice none 0 0) := (blk_cell Y6.out 1).trans rfl; have hf61 := blk_frozen Y6.out 1; have hz62 : wi1.cell? ⟨g6, 2, none⟩ = some (.int .i64 0) := (blk_cell Y6.out 2).trans rfl; have hf62 := blk_frozen Y6.out 2) | (go_at_call 73; with_reducible refine (spec_l1In.calls a2 0 (wrap64 (a0_0 - 1)) true _ A3.out).mono ?_; rintro e wi2 ⟨rfl, hd⟩; have hb := hd.below; clear hd; replace Y3 := Aside0.mk (blk_below (g := g3) Y3.out hb); replace Y6 := Aside0.mk (blk_below (g := g6) Y6.out hb); replace HB := Aside0.mk (below_step HB.out hb); clear hb; clear hp0 hp1 hp2 hz60 hz61 hz62 hf60 hf61 hf62; have hp0 : wi2.cell? ⟨g3, 0, none⟩ = some (.int .i64 a0_0) := (blk_cell Y3.out 0).trans rfl; have hp1 : wi2.cell? ⟨g3, 1, none⟩ = some (.slice A0_1 l0_1.length c0_1) := (blk_cell Y3.out 1).trans rfl; have hp2 : wi2.cell? ⟨g3, 2, none⟩ = some (.int .i64 a0_2) := (blk_cell Y3.out 2).trans rfl; have hz60 : wi2.cell? ⟨g6, 0, none⟩ = some (.int .i64 0) := (blk_cell Y6.out 0).trans rfl; have hf60 := blk_frozen Y6.out 0; have hz61 : wi2.cell? ⟨g6, 1, none⟩ = some (.slice none 0 0) := (blk_cell Y6.out 1).trans rfl; have hf61 := blk_frozen Y6.out 1; have hz62 : wi2.cell? ⟨g6, 2, none⟩ = some (.int .i64 0) := (blk_cell Y6.out 2).trans rfl; have hf62 := blk_frozen Y6.out 2))
          refine bodyPost_ret (results_ct rfl _ _ g6 27 #[.int .i64 0, .slice none 0 0, .int .i64 0] (0, 0) _ rfl (by refine blk_put (cs := #[.int .i64 0, .slice none 0 0, .int .i64 0]) ?_ 2 _ rfl; refine blk_put (cs := #[.int .i64 0, .slice none 0 0, .int .i64 0]) ?_ 1 _ rfl; refine blk_put (cs := #[.int .i64 0, .slice none 0 0, .int .i64 0]) ?_ 0 _ rfl; exact Y6.out) Try.underlying27 rfl (by kernel_rfl)) rfl ?_
          exact ⟨_, rfl, Kd.S_nil _ _ _ _ _, by repeat (first | exact HB.out | refine below_set ?_ GY6.out)⟩
        · rw [if_neg he] at HH
          have he2 : (a1 == a2) = false := by simpa using he
          clear he
          obtain ⟨lo, A40, HH⟩ := Option.bind_eq_some_iff.mp HH
          obtain ⟨hi, A50, HH⟩ := Option.bind_eq_some_iff.mp HH
          obtain ⟨res, A60, HH⟩ := Option.bind_eq_some_iff.mp HH
          have AL := Aside0.mk A40
          have AM := Aside0.mk A50
          have AG := Aside0.mk A60
          have HRES := Aside0.mk HH
          clear A40 A50 A60 HH
          go_upto_region 5 with (first | (go_at_call 48; refine (spec_keGood.calls k a0_0 A0_1 c0_1 l0_1 a0_2 true _ (Kd.C_below HR.out HB.out) HC.out A1.out).mono ?_; rintro e wB ⟨rfl, hb⟩; replace Y3 := Aside0.mk (blk_below (g := g3) Y3.out hb); replace Y6 := Aside0.mk (blk_below (g := g6) Y6.out hb); replace HB := Aside0.mk (below_step HB.out hb); clear hb; clear hp0 hp1 hp2 hz60 hz61 hz62 hf60 hf61 hf62; have hp0 : wB.cell? ⟨g3, 0, none⟩ = some (.int .i64 a0_0) := (blk_cell Y3.out 0).trans rfl; have hp1 : wB.cell? ⟨g3, 1, none⟩ = some (.slice A0_1 l0_1.length c0_1) := (blk_cell Y3.out 1).trans rfl; have hp2 : wB.cell? ⟨g3, 2, none⟩ = some (.int .i64 a0_2) := (blk_cell Y3.out 2).trans rfl; have hz60 : wB.cell? ⟨g6, 0, none⟩ = some (.int .i64 0) := (blk_cell Y6.out 0).trans rfl; have hf60 := blk_frozen Y6.out 0; have hz61 : wB.cell? ⟨g6, 1, none⟩ = some (.slice none 0 0) := (blk_cell Y6.out 1).trans rfl; have hf61 := blk_frozen Y6.out 1; have hz62 : wB.cell? ⟨g6, 2, none⟩ = some (.int .i64 0) := (blk_cell Y6.out 2).trans rfl; have hf62 := blk_frozen Y6.out 2) | (go_at_call 73; with_reducible refine (spec_l1In.calls a1 0 (wrap64 (a0_0 - 1)) true _ A2.out).mono ?_; rintro e wi1 ⟨rfl, hd⟩; have hb := hd.below; clear hd; replace Y3 := Aside0.mk (blk_below (g := g3) Y3.out hb); replace Y6 := Aside0.mk (blk_below (g := g6) Y6.out hb); replace HB := Aside0.mk (below_step HB.out hb); clear hb; clear hp0 hp1 hp2 hz60 hz61 hz62 hf60 hf61 hf62; have hp0 : wi1.cell? ⟨g3, 0, none⟩ = some (.int .i64 a0_0) := (blk_cell Y3.out 0).trans rfl; have hp1 : wi1.cell? ⟨g3, 1, none⟩ = some (.slice A0_1 l0_1.length c0_1) := (blk_cell Y3.out 1).trans rfl; have hp2 : wi1.cell? ⟨g3, 2, none⟩ = some (.int .i64 a0_2) := (blk_cell Y3.out 2).trans rfl; have hz60 : wi1.cell? ⟨g6, 0, none⟩ = some (.int .i64 0) := (blk_cell Y6.out 0).trans rfl; have hf60 := blk_frozen Y6.out 0; have hz61 : wi1.cell? ⟨g6, 1, none⟩ = some (.slice none 0 0) := (blk_cell Y6.out 1).trans rfl; have hf61 := blk_frozen Y6.out 1; have hz62 : wi1.cell? ⟨g6, 2, none⟩ = some (.int .i64 0) := (blk_cell Y6.out 2).trans rfl; have hf62 := blk_frozen Y6.out 2) | (go_at_call 73; with_reducible refine (spec_l1In.calls a2 0 (wrap64 (a0_0 - 1)) true _ A3.out).mono ?_; rintro e wi2 ⟨rfl, hd⟩; have hb := hd.below; clear hd; replace Y3 := Aside0.mk (blk_below (g := g3) Y3.out hb); replace Y6 := Aside0.mk (blk_below (g := g6) Y6.out hb); replace HB := Aside0.mk (below_step HB.out hb); clear hb; clear hp0 hp1 hp2 hz60 hz61 hz62 hf60 hf61 hf62; have hp0 : wi2.cell? ⟨g3, 0, none⟩ = some (.int .i64 a0_0) := (blk_cell Y3.out 0).trans rfl; have hp1 : wi2.cell? ⟨g3, 1, none⟩ = some (.slice A0_1 l0_1.length c0_1) := (blk_cell Y3.out 1).trans rfl; have hp2 : wi2.cell? ⟨g3, 2, none⟩ = some (.int .i64 a0_2) := (blk_cell Y3.out 2).trans rfl; have hz60 : wi2.cell? ⟨g6, 0, none⟩ = some (.int .i64 0) := (blk_cell Y6.out 0).trans rfl; have hf60 := blk_frozen Y6.out 0; have hz61 : wi2.cell? ⟨g6, 1, none⟩ = some (.slice none 0 0) := (blk_cell Y6.out 1).trans rfl; have hf61 := blk_frozen Y6.out 1; have hz62 : wi2.cell? ⟨g6, 2, none⟩ = some (.int .i64 0) := (blk_cell Y6.out 2).trans rfl; have hf62 := blk_frozen Y6.out 2) | (go_at_call 74; refine (spec_l1Least.calls a1 a2 lo _ AL.out).mono ?_; rintro e wl ⟨rfl, hd⟩; have hb := hd.below; clear hd; replace Y3 := Aside0.mk (blk_below (g := g3) Y3.out hb); replace Y6 := Aside0.mk (blk_below (g := g6) Y6.out hb); replace HB := Aside0.mk (below_step HB.out hb); clear hb; clear hp0 hp1 hp2 hz60 hz61 hz62 hf60 hf61 hf62; have hp0 : wl.cell? ⟨g3, 0, none⟩ = some (.int .i64 a0_0) := (blk_cell Y3.out 0).trans rfl; have hp1 : wl.cell? ⟨g3, 1, none⟩ = some (.slice A0_1 l0_1.length c0_1) := (blk_cell Y3.out 1).trans rfl; have hp2 : wl.cell? ⟨g3, 2, none⟩ = some (.int .i64 a0_2) := (blk_cell Y3.out 2).trans rfl; have hz60 : wl.cell? ⟨g6, 0, none⟩ = some (.int .i64 0) := (blk_cell Y6.out 0).trans rfl; have hf60 := blk_frozen Y6.out 0; have hz61 : wl.cell? ⟨g6, 1, none⟩ = some (.slice none 0 0) := (blk_cell Y6.out 1).trans rfl; have hf61 := blk_frozen Y6.out 1; have hz62 : wl.cell? ⟨g6, 2, none⟩ = some (.int .i64 0) := (blk_cell Y6.out 2).trans rfl; have hf62 := blk_frozen Y6.out 2) | (go_at_call 75; refine (spec_l1Most.calls a1 a2 hi _ AM.out).mono ?_; rintro e wm ⟨rfl, hd⟩; have hb := hd.below; clear hd; replace Y3 := Aside0.mk (blk_below (g := g3) Y3.out hb); replace Y6 := Aside0.mk (blk_below (g := g6) Y6.out hb); replace HB := Aside0.mk (below_step HB.out hb); clear hb; clear hp0 hp1 hp2 hz60 hz61 hz62 hf60 hf61 hf62; have hp0 : wm.cell? ⟨g3, 0, none⟩ = some (.int .i64 a0_0) := (blk_cell Y3.out 0).trans rfl; have hp1 : wm.cell? ⟨g3, 1, none⟩ = some (.slice A0_1 l0_1.length c0_1) := (blk_cell Y3.out 1).trans rfl; have hp2 : wm.cell? ⟨g3, 2, none⟩ = some (.int .i64 a0_2) := (blk_cell Y3.out 2).trans rfl; have hz60 : wm.cell? ⟨g6, 0, none⟩ = some (.int .i64 0) := (blk_cell Y6.out 0).trans rfl; have hf60 := blk_frozen Y6.out 0; have hz61 : wm.cell? ⟨g6, 1, none⟩ = some (.slice none 0 0) := (blk_cell Y6.out 1).trans rfl; have hf61 := blk_frozen Y6.out 1; have hz62 : wm.cell? ⟨g6, 2, none⟩ = some (.int .i64 0) := (blk_cell Y6.out 2).trans rfl; have hf62 := blk_frozen Y6.out 2) | ((with_reducible refine gate_dst (N := 44) rfl ?_); refine spec_WithDanger.lit_event ?hg (N := 44) ?hd (cs := #[.int .i64 lo, .int .i64 hi]) (t := 3) (n := 2) ?hr ?_; (case hd => rfl); (case hg => rfl); (case hr => first | (go_simp; done) | (go_simp; rfl)); intro g44 hg w44 hbox hb; have Y44 := Aside0.mk hbox; have GY44 := Aside0.mk ((by rw [hg]; exact below_size HB.out) : w.heap.size ≤ g44); have nY44Y3_ := Aside0.mk (Nat.ne_of_lt (Nat.lt_of_lt_of_le (blk_lt Y3.out) (Nat.le_of_eq hg.symm)) : g3 ≠ g44); replace Y3 := Aside0.mk (blk_below (g := g3) Y3.out hb); have nY44Y6_ := Aside0.mk (Nat.ne_of_lt (Nat.lt_of_lt_of_le (blk_lt Y6.out) (Nat.le_of_eq hg.symm)) : g6 ≠ g44); replace Y6 := Aside0.mk (blk_below (g := g6) Y6.out hb); replace HB := Aside0.mk (below_step HB.out hb); clear hb hbox hg; clear hp0 hp1 hp2 hz60 hz61 hz62 hf60 hf61 hf62; have hp0 : w44.cell? ⟨g3, 0, none⟩ = some (.int .i64 a0_0) := (blk_cell Y3.out 0).trans rfl; have hp1 : w44.cell? ⟨g3, 1, none⟩ = some (.slice A0_1 l0_1.length c0_1) := (blk_cell Y3.out 1).trans rfl; have hp2 : w44.cell? ⟨g3, 2, none⟩ = some (.int .i64 a0_2) := (blk_cell Y3.out 2).trans rfl; have hz60 : w44.cell? ⟨g6, 0, none⟩ = some (.int .i64 0) := (blk_cell Y6.out 0).trans rfl; have hf60 := blk_frozen Y6.out 0; have hz61 : w44.cell? ⟨g6, 1, none⟩ = some (.slice none 0 0) := (blk_cell Y6.out 1).trans rfl; have hf61 := blk_frozen Y6.out 1; have hz62 : w44.cell? ⟨g6, 2, none⟩ = some (.int .i64 0) := (blk_cell Y6.out 2).trans rfl; have hf62 := blk_frozen Y6.out 2) | ((with_reducible refine gate_dst (N := 9) rfl ?_); refine box_event ?hg (N := 9) ?hd (cs := #[.int .i64 0, .slice none 0 0, .int .i64 0]) (t := 27) ?hr ?_; (case hd => rfl); (case hg => rfl); (case hr => first | (go_simp; done) | (go_simp; rfl)); intro g9 hg w9 hbox hb; have Y9 := Aside0.mk hbox; have GY9 := Aside0.mk ((by rw [hg]; exact below_size HB.out) : w.heap.size ≤ g9); have nY9Y3_ := Aside0.mk (Nat.ne_of_lt (Nat.lt_of_lt_of_le (blk_lt Y3.out) (Nat.le_of_eq hg.symm)) : g3 ≠ g9); replace Y3 := Aside0.mk (blk_below (g := g3) Y3.out hb); have nY9Y6_ := Aside0.mk (Nat.ne_of_lt (Nat.lt_of_lt_of_le (blk_lt Y6.out) (Nat.le_of_eq hg.symm)) : g6 ≠ g9); replace Y6 := Aside0.mk (blk_below (g := g6) Y6.out hb); have nY9Y44_ := Aside0.mk (Nat.ne_of_lt (Nat.lt_of_lt_of_le (blk_lt Y44.out) (Nat.le_of_eq hg.symm)) : g44 ≠ g9); replace Y44 := Aside0.mk (blk_below (g := g44) Y44.out hb); replace HB := Aside0.mk (below_step HB.out hb); clear hb hbox hg; have hz90 : w9.cell? ⟨g9, 0, none⟩ = some (.int .i64 0) := (blk_cell Y9.out 0).trans rfl; have hf90 := blk_frozen Y9.out 0; have hz91 : w9.cell? ⟨g9, 1, none⟩ = some (.slice none 0 0) := (blk_cell Y9.out 1).trans rfl; have hf91 := blk_frozen Y9.out 1; have hz92 : w9.cell? ⟨g9, 2, none⟩ = some (.int .i64 0) := (blk_cell Y9.out 2).trans rfl; have hf92 := blk_frozen Y9.out 2; clear hp0 hp1 hp2 hz60 hz61 hz62 hf60 hf61 hf62; have hp0 : w9.cell? ⟨g3, 0, none⟩ = some (.int .i64 a0_0) := (blk_cell Y3.out 0).trans rfl; have hp1 : w9.cell? ⟨g3, 1, none⟩ = some (.slice A0_1 l0_1.length c0_1) := (blk_cell Y3.out 1).trans rfl; have hp2 : w9.cell? ⟨g3, 2, none⟩ = some (.int .i64 a0_2) := (blk_cell Y3.out 2).trans rfl; have hz60 : w9.cell? ⟨g6, 0, none⟩ = some (.int .i64 0) := (blk_cell Y6.out 0).trans rfl; have hf60 := blk_frozen Y6.out 0; have hz61 : w9.cell? ⟨g6, 1, none⟩ = some (.slice none 0 0) := (blk_cell Y6.out 1).trans rfl; have hf61 := blk_frozen Y6.out 1; have hz62 : w9.cell? ⟨g6, 2, none⟩ = some (.int .i64 0) := (blk_cell Y6.out 2).trans rfl; have hf62 := blk_frozen Y6.out 2))
          (try simp only [Act.put, List.setIfInBounds_toArray, List.set_cons_zero, List.set_cons_succ])
          (try clear hp0 hp1 hp2 hz60 hz61 hz62 hf60 hf61 hf62)
          (try clear hz90 hz91 hz92 hf90 hf91 hf92)
          replace Y6 := Aside0.mk (blk_far (blk_far (blk_far Y6.out (p := ⟨g9, 0, none⟩) (fun e_ => nY9Y6_.out e_) (.int .i64 a0_0)) (p := ⟨g9, 1, none⟩) (fun e_ => nY9Y6_.out e_) (.slice none 0 0)) (p := ⟨g9, 2, none⟩) (fun e_ => nY9Y6_.out e_) (.int .i64 a0_2))
          replace Y3 := Aside0.mk (blk_far (blk_far (blk_far Y3.out (p := ⟨g9, 0, none⟩) (fun e_ => nY9Y3_.out e_) (.int .i64 a0_0)) (p := ⟨g9, 1, none⟩) (fun e_ => nY9Y3_.out e_) (.slice none 0 0)) (p := ⟨g9, 2, none⟩) (fun e_ => nY9Y3_.out e_) (.int .i64 a0_2))
          replace Y44 := Aside0.mk (blk_far (blk_far (blk_far Y44.out (p := ⟨g9, 0, none⟩) (fun e_ => nY9Y44_.out e_) (.int .i64 a0_0)) (p := ⟨g9, 1, none⟩) (fun e_ => nY9Y44_.out e_) (.slice none 0 0)) (p := ⟨g9, 2, none⟩) (fun e_ => nY9Y44_.out e_) (.int .i64 a0_2))
          replace HB := Aside0.mk (below_set (j := 2) (v := .int .i64 a0_2) (below_set (j := 1) (v := .slice none 0 0) (below_set (j := 0) (v := .int .i64 a0_0) HB.out GY9.out) GY9.out) GY9.out)
          replace Y9 : Aside0 ((((w9.setCell ⟨g9, 0, none⟩ (.int .i64 a0_0)).setCell ⟨g9, 1, none⟩ (.slice none 0 0)).setCell ⟨g9, 2, none⟩ (.int .i64 a0_2)).heap[g9]? = some (.cells #[.int .i64 a0_0, .slice none 0 0, .int .i64 a0_2] 27 (0, 0))) := ⟨(by refine blk_put (cs := #[.int .i64 a0_0, .slice none 0 0, .int .i64 0]) ?_ 2 _ rfl; refine blk_put (cs := #[.int .i64 a0_0, .slice none 0 0, .int .i64 0]) ?_ 1 _ rfl; refine blk_put (cs := #[.int .i64 0, .slice none 0 0, .int .i64 0]) ?_ 0 _ rfl; exact Y9.out)⟩
          generalize (((w9.setCell ⟨g9, 0, none⟩ (.int .i64 a0_0)).setCell ⟨g9, 1, none⟩ (.slice none 0 0)).setCell ⟨g9, 2, none⟩ (.int .i64 a0_2)) = wI at Y3 Y6 Y9 Y44 HB ⊢
          have hp1 : wI.cell? ⟨g3, 1, none⟩ = some (.slice A0_1 l0_1.length c0_1) := (blk_cell Y3.out 1).trans rfl
          go_wp2
          go_loopg [10, 53] l0_1.length (fun gg v10 v53 wr => ∃ (kk : Nat) (put : Bool) (out : List (List Int)) (A9 : Option Addr) (c9 : Nat), v53 = .int .i64 (kk : Int) ∧ v10 = .bool put ∧ kk ≤ l0_1.length ∧ l0_1.length - kk ≤ gg ∧ Aside0 (spec_WithDanger.go k [lo, hi] (l0_1.drop kk) put out = some res) ∧ Aside0 (wr.heap[g6]? = some (.cells #[.int .i64 0, .slice none 0 0, .int .i64 0] 27 (0, 0))) ∧ Aside0 (wr.heap[g9]? = some (.cells #[.int .i64 a0_0, .slice A9 out.length c9, .int .i64 a0_2] 27 (0, 0))) ∧ Aside0 (wr.heap[g44]? = some (.cells #[.int .i64 lo, .int .i64 hi] 3 (0, 0))) ∧ Aside0 (Kd.S (Kd.slice 3 (Kd.int .i64)) 51 wr w.heap.size (fun k_ => put = true ∨ k_ ≠ g44) (.slice A9 out.length c9) out) ∧ Aside0 (Below w.heap.size w wr))
          case atStart => exact ⟨0, false, [], none, 0, rfl, rfl, Nat.zero_le _, Nat.le_refl _, AG, Y6, Y9, Y44, ⟨Kd.S_nil _ _ _ _ _⟩, HB⟩
          case round =>
            clear Y3 Y6 Y9 Y44 HB hp1 AG A1 A2 A3 AL AM
            obtain ⟨kk, put, out, A9, c9, rfl, rfl, hkk, hgg, AG, Y6, Y9, Y44, HS, HB⟩ := hrel
            by_cases hlt : kk < l0_1.length
            · have hltz : (kk : Int) < (l0_1.length : Int) := by omega
              obtain ⟨ad, A1, c1, e161, hcell, hlc, hi2⟩ := at_L1 HR.out (kk : Int) (by omega) hltz
              cases e161
              rw [Int.toNat_natCast] at hcell
              have hG := AG.out
              rw [List.drop_eq_getElem_cons hlt, ← spec_WithDanger.rdget l0_1 kk hlt] at hG
              clear AG
              have hv := Aside0.mk (rfl : rd_L1 l0_1 (kk : Int) = rd_L1 l0_1 (kk : Int))
              generalize rd_L1 l0_1 (kk : Int) = x at hcell hlc hi2 hG hv
              clear hv
              have HX := Aside0.mk hi2
              have HXC := Aside0.mk hlc
              clear hi2 hlc
              have hcx : wr.cell? (ad.add kk) = some (.slice A1 x.length c1) := pw_cell_below HB.out hcell
              clear hcell
              rw [spec_WithDanger.go] at hG
              obtain ⟨t5, A50, hG⟩ := Option.bind_eq_some_iff.mp hG
              have A5 := Aside0.mk A50
              clear A50
              cases t5 with
              | true =>
                rw [if_pos rfl] at hG
                obtain rfl := Option.some.inj hG
                clear hG
                have HH_ := Aside0.mk (show some (0, ([] : List (List Int)), 0, false) = some (r1, r2, r3, r4) from HRES.out)
                clear HRES
                have H := HH_.out
                simp only [Option.some.injEq, Prod.mk.injEq] at H
                obtain ⟨rfl, rfl, rfl, rfl⟩ := H
                clear HH_
                go_wp2_with (first | (go_at_call 76; refine (spec_l1Same.calls k A1 c1 x (some ⟨g44, 0, none⟩) 2 [lo, hi] true _ (Kd.C_below HX.out HB.out) HXC.out (spec_WithDanger.row2C Y44.out) (Nat.le_refl _) A5.out).mono ?_; rintro e ws ⟨rfl, hd⟩; have hb := hd.below; clear hd; replace Y6 := Aside0.mk (blk_below (g := g6) Y6.out hb); replace Y9 := Aside0.mk (blk_below (g := g9) Y9.out hb); replace Y44 := Aside0.mk (blk_below (g := g44) Y44.out hb); replace HS := Aside0.mk (Kd.S_below HS.out hb); replace HB := Aside0.mk (below_step HB.out hb); clear hb; have hz60 : ws.cell? ⟨g6, 0, none⟩ = some (.int .i64 0) := (blk_cell Y6.out 0).trans rfl; have hf60 := blk_frozen Y6.out 0; have hz61 : ws.cell? ⟨g6, 1, none⟩ = some (.slice none 0 0) := (blk_cell Y6.out 1).trans rfl; have hf61 := blk_frozen Y6.out 1; have hz62 : ws.cell? ⟨g6, 2, none⟩ = some (.int .i64 0) := (blk_cell Y6.out 2).trans rfl; have hf62 := blk_frozen Y6.out 2))
                refine bodyPost_ret (results_ct rfl _ _ g6 27 #[.int .i64 0, .slice none 0 0, .int .i64 0] (0, 0) _ rfl (by refine blk_put (cs := #[.int .i64 0, .slice none 0 0, .int .i64 0]) ?_ 2 _ rfl; refine blk_put (cs := #[.int .i64 0, .slice none 0 0, .int .i64 0]) ?_ 1 _ rfl; refine blk_put (cs := #[.int .i64 0, .slice none 0 0, .int .i64 0]) ?_ 0 _ rfl; exact Y6.out) Try.underlying27 rfl (by kernel_rfl)) rfl ?_
                exact ⟨_, rfl, Kd.S_nil _ _ _ _ _, by repeat (first | exact HB.out | refine below_set ?_ GY6.out)⟩
              | false =>
                rw [if_neg (by decide)] at hG
                by_cases hlen : out.length < 1048576 ∧ x.length < 1048576
                case neg =>
                  rw [if_neg hlen] at hG
                  cases hG
                rw [if_pos hlen] at hG
                have HLEN := Aside0.mk hlen
                have HOUT := Aside0.mk hlen.1
                clear hlen
                cases put with
                | true =>
                  rw [if_pos rfl] at hG
                  obtain ⟨y2, hy2⟩ : ∃ y2, y2 = out ++ [x] := ⟨_, rfl⟩
                  rw [← hy2] at hG
                  have HY2 := Aside0.mk hy2
                  clear hy2
                  have HG := Aside0.mk hG
                  clear hG
                  replace HS := Aside0.mk (Kd.S_mono (ok' := fun _ => True) HS.out (fun _ _ => trivial))
                  go_wp2_with (first | (go_at_call 76; refine (spec_l1Same.calls k A1 c1 x (some ⟨g44, 0, none⟩) 2 [lo, hi] false _ (Kd.C_below HX.out HB.out) HXC.out (spec_WithDanger.row2C Y44.out) (Nat.le_refl _) A5.out).mono ?_; rintro e ws ⟨rfl, hd⟩; have hb := hd.below; clear hd; replace Y6 := Aside0.mk (blk_below (g := g6) Y6.out hb); replace Y9 := Aside0.mk (blk_below (g := g9) Y9.out hb); replace Y44 := Aside0.mk (blk_below (g := g44) Y44.out hb); replace HS := Aside0.mk (Kd.S_below HS.out hb); replace HB := Aside0.mk (below_step HB.out hb); clear hb; have hz60 : ws.cell? ⟨g6, 0, none⟩ = some (.int .i64 0) := (blk_cell Y6.out 0).trans rfl; have hf60 := blk_frozen Y6.out 0; have hz61 : ws.cell? ⟨g6, 1, none⟩ = some (.slice none 0 0) := (blk_cell Y6.out 1).trans rfl; have hf61 := blk_frozen Y6.out 1; have hz62 : ws.cell? ⟨g6, 2, none⟩ = some (.int .i64 0) := (blk_cell Y6.out 2).trans rfl; have hf62 := blk_frozen Y6.out 2))
                  (try clear hcx hz60 hz61 hz62 hf60 hf61 hf62)
                  replace HS := Aside0.mk (Kd.S_drew HS.out)
                  replace Y6 := Aside0.mk (blk_drew Y6.out)
                  replace Y9 := Aside0.mk (blk_drew Y9.out)
                  replace Y44 := Aside0.mk (blk_drew Y44.out)
                  replace HB := Aside0.mk (below_drew1 HB.out)
                  refine start_ (n := 8) (S := fun w' => w'.cell? ⟨g9, 1, none⟩ = some (.slice A9 out.length c9)) (ds := [7]) #[false, false, false, false, false, false, false, false] (by kernel_rfl) rfl rfl ((blk_cell Y9.out 1).trans rfl) (fun hHeld => ?_)
                  generalize ws.drew = wd at HS Y6 Y9 Y44 HB hHeld ⊢
                  refine pure_ (i := 0) (N := some 74) (v := ?_) (a' := ?_) #[true, false, false, false, false, false, false, false] rfl rfl (by kernel_rfl) (fun _ _ _ h => h) (Or.inl ⟨by rfl, ?_⟩) ?_ ?_
                  rotate_left
                  · intro w'
                    go_simp
                    with_reducible rfl
                  rotate_left
                  · simp only [Act.put, List.setIfInBounds_toArray, List.set_cons_zero, List.set_cons_succ, i64_w, i32_w]
                    rfl
                  refine take_ (i := 1) (N := some 75) (v := ?_) (a' := ?_) #[true, true, false, false, false, false, false, false] rfl rfl (by kernel_rfl) (fun _ _ _ h => h) (Or.inl ⟨by rfl, ?_⟩) hHeld ?_ ?_
                  rotate_left
                  · rintro w' s0
                    go_simp
                    with_reducible rfl
                  rotate_left
                  · simp only [Act.put, List.setIfInBounds_toArray, List.set_cons_zero, List.set_cons_succ, i64_w, i32_w]
                    rfl
                  refine pure_ (i := 2) (N := some 76) (v := ?_) (a' := ?_) #[true, true, true, false, false, false, false, false] rfl rfl (by kernel_rfl) (fun _ _ _ h => h) (Or.inl ⟨by rfl, ?_⟩) ?_ ?_
                  rotate_left
                  · intro w'
                    go_simp
                    with_reducible rfl
                  rotate_left
                  · simp only [Act.put, List.setIfInBounds_toArray, List.set_cons_zero, List.set_cons_succ, i64_w, i32_w]
                    rfl
                  refine one_ (i := 3) (N := some 77) #[true, true, true, true, false, false, false, false] rfl rfl (by kernel_rfl) (by decide) (fun K hK => ?_)
                  refine goes_ Try.func78 (by kernel_rfl) rfl #[.slice A1 x.length c1] (by rfl) rfl rfl (by (try simp only [List.map_toArray, List.map_cons, List.map_nil]); first | done | rfl) ?_
                  refine (spec_l1Own.calls A1 c1 x x _ (Kd.C_below HX.out HB.out) HXC.out (spec_WithDanger.own x HLEN.out.2)).mono ?_
                  rintro e wa ⟨v77, rfl, ho, hb⟩
                  refine ⟨_, rfl, ?_⟩
                  have LT := Aside0.mk (Kd.S_lt HS.out)
                  have LT44 := Aside0.mk (blk_lt Y44.out)
                  have BS := Aside0.mk (Kd.R_base ho)
                  have HS2 := Aside0.mk (Kd.S_mono (ok' := fun k_ => (True) ∧ ¬ some k_ = v77.ownBlock) (Kd.S_below (Kd.S_mono (ok' := fun k_ => (True) ∧ k_ < wd.heap.size) (Kd.S_bound HS.out) (fun _ hk => ⟨hk.1, hk.2.2.1⟩)) hb) (fun k_ hk => ⟨hk.1, fun e_ => by have h9 := BS.out k_ e_.symm; have h8 := hk.2; omega⟩))
                  have HO := Aside0.mk (Kd.R_tight rfl (Kd.R_lower ho (below_size HB.out)))
                  replace Y6 := Aside0.mk (blk_below (g := g6) Y6.out hb)
                  replace Y9 := Aside0.mk (blk_below (g := g9) Y9.out hb)
                  replace Y44 := Aside0.mk (blk_below (g := g44) Y44.out hb)
                  replace HS := Aside0.mk (Kd.S_below HS.out hb)
                  replace HB := Aside0.mk (below_step HB.out hb)
                  clear hb ho
                  obtain ⟨A77, c77, e77⟩ := Kd.R_slice HO.out
                  subst e77
                  refine hK.out _ _ ((blk_cell Y9.out 1).trans rfl) (fun hHeld => ?_)
                  clear hK K
                  refine norm_ (a' := ?_) ?_ ?_
                  rotate_left
                  · show Act.put _ (some 77) _ = _
                    simp only [Act.put, List.setIfInBounds_toArray, List.set_cons_zero, List.set_cons_succ, i64_w, i32_w]
                    rfl
                  refine one_ (i := 4) (N := some 78) #[true, true, true, true, true, false, false, false] rfl rfl (by kernel_rfl) (by decide) (fun K hK => ?_)
                  refine event_step (v := .slice (some ⟨wa.heap.size, 0, none⟩) 1 1) (w1 := wa.alloc (.cells #[.slice A77 x.length c77] 51)) (by rfl) ?hr ?_
                  (case hr => first | (go_simp; done) | (go_simp; rfl))
                  refine hK.out _ _ (pw_cell_below (below_alloc (Below.refl _ _) _) hHeld) (fun hHeld => ?_)
                  clear hK K
                  refine norm_ (a' := ?_) ?_ ?_
                  rotate_left
                  · show Act.put _ (some 78) _ = _
                    simp only [Act.put, List.setIfInBounds_toArray, List.set_cons_zero, List.set_cons_succ, i64_w, i32_w]
                    rfl
                  refine one_ (i := 5) (N := some 79) #[true, true, true, true, true, true, false, false] rfl rfl (by kernel_rfl) (by decide) (fun K hK => ?_)
                  refine Kd.S_append_step (Kd.slice 3 (Kd.int .i64)) (w0 := w) w.heap.size (by rfl) (.tmp 75) (.tmp 78) 22 51 (.slice none 0 0) 24 rfl Try.underlying22 spec_WithDanger.infoS rfl (by decide) (by omega) (.slice A9 out.length c9) out x [.slice A77 x.length c77] (fun k_ => True) (fun k_ => some k_ = (.slice A77 x.length c77 : Value).ownBlock) rfl rfl ?aP (fun k_ hk_ => ⟨trivial, fun e_ => by have h9 := LT.out k_ e_.symm; have h8 := BS.out k_ hk_.symm; omega⟩) ?aF ?aO ?aB ?aS ?aL ?_
                  (case aP => exact ⟨_, rfl, HO.out⟩)
                  (case aF => exact (fun _ _ => trivial))
                  (case aO => exact HS2.out)
                  (case aB => exact HB.out)
                  (case aS => exact below_size HB.out)
                  (case aL => have := HOUT.out; omega)
                  intro v79 w7 ho hb hg hat
                  rw [← HY2.out] at ho
                  replace Y6 := Aside0.mk (blk_grown (g := g6) Y6.out hg (Kd.S_ne HS.out Y6.out (by decide)))
                  replace Y9 := Aside0.mk (blk_grown (g := g9) Y9.out hg (Kd.S_ne HS.out Y9.out (by decide)))
                  replace Y44 := Aside0.mk (blk_grown (g := g44) Y44.out hg (Kd.S_ne HS.out Y44.out (by decide)))
                  replace HB := Aside0.mk hb
                  replace HS := Aside0.mk ho
                  clear ho hb hg hat HO LT BS HS2 LT44
                  obtain ⟨A79, c79, e79⟩ := Kd.S_slice HS.out
                  subst e79
                  refine hK.out _ _ ((blk_cell Y9.out 1).trans rfl) (fun hHeld => ?_)
                  clear hK K
                  refine norm_ (a' := ?_) ?_ ?_
                  rotate_left
                  · show Act.put _ (some 79) _ = _
                    simp only [Act.put, List.setIfInBounds_toArray, List.set_cons_zero, List.set_cons_succ, i64_w, i32_w]
                    rfl
                  refine pure_ (i := 6) (N := some 80) (v := ?_) (a' := ?_) #[true, true, true, true, true, true, true, false] rfl rfl (by kernel_rfl) (fun _ _ _ h => h) (Or.inl ⟨by rfl, ?_⟩) ?_ ?_
                  rotate_left
                  · intro w'
                    go_simp
                    with_reducible rfl
                  rotate_left
                  · simp only [Act.put, List.setIfInBounds_toArray, List.set_cons_zero, List.set_cons_succ, i64_w, i32_w]
                    rfl
                  have hz0 : w7.cell? ⟨g9, 1, none⟩ = some (.slice A9 out.length c9) := (blk_cell Y9.out 1).trans rfl
                  have hf0 := blk_frozen Y9.out 1
                  refine last_ (i := 7) (N := none) #[true, true, true, true, true, true, true, true] rfl rfl (by kernel_rfl) (by decide) (fun K hK => ?_)
                  refine skip_ (w1 := ?_) (by rfl) rfl ?_ ?_
                  rotate_left
                  · go_simp
                    rfl
                  refine hK.out _ _ ?_
                  clear hK K
                  refine done_ (by kernel_rfl) ?_
                  clear hz0 hf0
                  replace HS := Aside0.mk (Kd.S_mono (Kd.S_far (p := ⟨g9, 1, none⟩) (Kd.S_types HS.out Y9.out (by decide)) (fun _ hk => hk.2) (.slice A79 y2.length c79)) (fun _ hk => hk.1))
                  replace Y6 := Aside0.mk (blk_far Y6.out (p := ⟨g9, 1, none⟩) (fun e_ => nY9Y6_.out e_) (.slice A79 y2.length c79))
                  replace Y44 := Aside0.mk (blk_far Y44.out (p := ⟨g9, 1, none⟩) (fun e_ => nY9Y44_.out e_) (.slice A79 y2.length c79))
                  replace HB := Aside0.mk (below_set (j := 1) (v := .slice A79 y2.length c79) HB.out GY9.out)
                  replace Y9 := Aside0.mk (blk_put Y9.out 1 (.slice A79 y2.length c79) rfl)
                  generalize w7.setCell ⟨g9, 1, none⟩ (.slice A79 y2.length c79) = w8 at HS Y6 Y44 Y9 HB ⊢
                  replace Y9 : Aside0 (w8.heap[g9]? = some (.cells #[.int .i64 a0_0, .slice A79 y2.length c79, .int .i64 a0_2] 27 (0, 0))) := ⟨Y9.out⟩
                  (try go_wp2)
                  go_roundg (l0_1.length - (kk + 1))
                  case measure => omega
                  case rel => exact ⟨kk + 1, true, y2, A79, c79, (by have hbig : l0_1.length ≤ 9223372036854775807 := HR.out.2.1; rw [show wrap64 ((kk : Int) + 1) = ((kk + 1 : Nat) : Int) from by unfold wrap64; omega]), rfl, by omega, by omega, HG, Y6, Y9, Y44, ⟨Kd.S_mono HS.out (fun _ _ => .inl rfl)⟩, HB⟩
                | false =>
                  rw [if_neg (by decide)] at hG
                  obtain ⟨b6, A60, hG⟩ := Option.bind_eq_some_iff.mp hG
                  have A6 := Aside0.mk A60
                  clear A60
                  replace HS := Aside0.mk (Kd.S_mono (ok' := fun k_ => k_ ≠ g44) HS.out (fun _ hk => hk.resolve_left (by decide)))
                  cases b6 with
                  | true =>
                    rw [if_pos rfl] at hG
                    obtain ⟨y, hy⟩ : ∃ y, y = out ++ [[lo, hi]] := ⟨_, rfl⟩
                    rw [← hy] at hG
                    have HY := Aside0.mk hy
                    clear hy
                    obtain ⟨y2, hy2⟩ : ∃ y2, y2 = y ++ [x] := ⟨_, rfl⟩
                    rw [← hy2] at hG
                    have HY2 := Aside0.mk hy2
                    clear hy2
                    have HG := Aside0.mk hG
                    clear hG
                    go_wp2_with (first | (go_at_call 76; refine (spec_l1Same.calls k A1 c1 x (some ⟨g44, 0, none⟩) 2 [lo, hi] false _ (Kd.C_below HX.out HB.out) HXC.out (spec_WithDanger.row2C Y44.out) (Nat.le_refl _) A5.out).mono ?_; rintro e ws ⟨rfl, hd⟩; have hb := hd.below; clear hd; replace Y6 := Aside0.mk (blk_below (g := g6) Y6.out hb); replace Y9 := Aside0.mk (blk_below (g := g9) Y9.out hb); replace Y44 := Aside0.mk (blk_below (g := g44) Y44.out hb); replace HS := Aside0.mk (Kd.S_below HS.out hb); replace HB := Aside0.mk (below_step HB.out hb); clear hb; have hz60 : ws.cell? ⟨g6, 0, none⟩ = some (.int .i64 0) := (blk_cell Y6.out 0).trans rfl; have hf60 := blk_frozen Y6.out 0; have hz61 : ws.cell? ⟨g6, 1, none⟩ = some (.slice none 0 0) := (blk_cell Y6.out 1).trans rfl; have hf61 := blk_frozen Y6.out 1; have hz62 : ws.cell? ⟨g6, 2, none⟩ = some (.int .i64 0) := (blk_cell Y6.out 2).trans rfl; have hf62 := blk_frozen Y6.out 2) | (go_at_call 77; refine (spec_keBefore.calls (some ⟨g44, 0, none⟩) 2 [lo, hi] A1 c1 x true _ (spec_WithDanger.row2C Y44.out) (Nat.le_refl _) (Kd.C_below HX.out HB.out) HXC.out A6.out).mono ?_; rintro e wb ⟨rfl, hd⟩; have hb := hd.below; clear hd; replace Y6 := Aside0.mk (blk_below (g := g6) Y6.out hb); replace Y9 := Aside0.mk (blk_below (g := g9) Y9.out hb); replace Y44 := Aside0.mk (blk_below (g := g44) Y44.out hb); replace HS := Aside0.mk (Kd.S_below HS.out hb); replace HB := Aside0.mk (below_step HB.out hb); clear hb; have hz91 : wb.cell? ⟨g9, 1, none⟩ = some (.slice A9 out.length c9) := (blk_cell Y9.out 1).trans rfl) | ((with_reducible refine gate_builtin (b := .append) (xs := #[.tmp 69, .tmp 71]) rfl ?_); at_builtin; refine Kd.S_append (Kd.slice 3 (Kd.int .i64)) (w0 := w) (W := wb) w.heap.size rfl (.tmp 69) (.tmp 71) 22 51 (.slice none 0 0) 24 rfl Try.underlying22 spec_WithDanger.infoS rfl (by decide) (by omega) (.slice A9 out.length c9) out [lo, hi] [(.slice (some ⟨g44, 0, none⟩) 2 2)] (fun _ => True) (fun k_ => k_ = g44) rfl rfl ⟨_, rfl, spec_WithDanger.row2 Y44.out GY44.out⟩ (fun k_ hk_ => ⟨trivial, fun e_ => by subst hk_; exact Kd.S_ne HS.out Y44.out (by decide) e_⟩) (fun _ _ => trivial) (Kd.S_mono HS.out (fun _ hk_ => ⟨trivial, hk_⟩)) HB.out (below_size HB.out) (by have := HOUT.out; omega) ?_; intro v72 wp ho hb hg _; rw [← HY.out] at ho; replace Y6 := Aside0.mk (blk_grown (g := g6) Y6.out hg (Kd.S_ne HS.out Y6.out (by decide))); replace Y9 := Aside0.mk (blk_grown (g := g9) Y9.out hg (Kd.S_ne HS.out Y9.out (by decide))); replace Y44 := Aside0.mk (blk_grown (g := g44) Y44.out hg (Kd.S_ne HS.out Y44.out (by decide))); replace HS := Aside0.mk ho; replace HB := Aside0.mk hb; clear ho hb hg; obtain ⟨A72, c72, e72⟩ := Kd.S_slice HS.out; subst e72; (try clear hz91 hf91); have hz91 : wp.cell? ⟨g9, 1, none⟩ = some (.slice A9 out.length c9) := (blk_cell Y9.out 1).trans rfl; have hf91 := blk_frozen Y9.out 1))
                    (try clear hcx hz60 hz61 hz62 hf60 hf61 hf62)
                    (try clear hz91 hf91)
                    replace HOUT := Aside0.mk (show y.length < 1048577 by have h9 := HOUT.out; rw [HY.out]; simp; omega)
                    replace HS := Aside0.mk (Kd.S_mono (Kd.S_far (p := ⟨g9, 1, none⟩) (Kd.S_types HS.out Y9.out (by decide)) (fun _ hk => hk.2) (.slice A72 y.length c72)) (fun _ hk => hk.1))
                    replace Y6 := Aside0.mk (blk_far Y6.out (p := ⟨g9, 1, none⟩) (fun e_ => nY9Y6_.out e_) (.slice A72 y.length c72))
                    replace Y44 := Aside0.mk (blk_far Y44.out (p := ⟨g9, 1, none⟩) (fun e_ => nY9Y44_.out e_) (.slice A72 y.length c72))
                    replace HB := Aside0.mk (below_set (j := 1) (v := .slice A72 y.length c72) HB.out GY9.out)
                    replace Y9 := Aside0.mk (blk_put Y9.out 1 (.slice A72 y.length c72) rfl)
                    generalize wp.setCell ⟨g9, 1, none⟩ (.slice A72 y.length c72) = wq at HS Y6 Y44 Y9 HB ⊢
                    replace Y9 : Aside0 (wq.heap[g9]? = some (.cells #[.int .i64 a0_0, .slice A72 y.length c72, .int .i64 a0_2] 27 (0, 0))) := ⟨Y9.out⟩
                    replace HS := Aside0.mk (Kd.S_drew HS.out)
                    replace Y6 := Aside0.mk (blk_drew Y6.out)
                    replace Y9 := Aside0.mk (blk_drew Y9.out)
                    replace Y44 := Aside0.mk (blk_drew Y44.out)
                    replace HB := Aside0.mk (below_drew1 HB.out)
                    refine start_ (n := 8) (S := fun w' => w'.cell? ⟨g9, 1, none⟩ = some (.slice A72 y.length c72)) (ds := [7]) #[false, false, false, false, false, false, false, false] (by kernel_rfl) rfl rfl ((blk_cell Y9.out 1).trans rfl) (fun hHeld => ?_)
                    generalize wq.drew = wd at HS Y6 Y9 Y44 HB hHeld ⊢
                    refine pure_ (i := 0) (N := some 74) (v := ?_) (a' := ?_) #[true, false, false, false, false, false, false, false] rfl rfl (by kernel_rfl) (fun _ _ _ h => h) (Or.inl ⟨by rfl, ?_⟩) ?_ ?_
                    rotate_left
                    · intro w'
                      go_simp
                      with_reducible rfl
                    rotate_left
                    · simp only [Act.put, List.setIfInBounds_toArray, List.set_cons_zero, List.set_cons_succ, i64_w, i32_w]
                      rfl
                    refine take_ (i := 1) (N := some 75) (v := ?_) (a' := ?_) #[true, true, false, false, false, false, false, false] rfl rfl (by kernel_rfl) (fun _ _ _ h => h) (Or.inl ⟨by rfl, ?_⟩) hHeld ?_ ?_
                    rotate_left
                    · rintro w' s0
                      go_simp
                      with_reducible rfl
                    rotate_left
                    · simp only [Act.put, List.setIfInBounds_toArray, List.set_cons_zero, List.set_cons_succ, i64_w, i32_w]
                      rfl
                    refine pure_ (i := 2) (N := some 76) (v := ?_) (a' := ?_) #[true, true, true, false, false, false, false, false] rfl rfl (by kernel_rfl) (fun _ _ _ h => h) (Or.inl ⟨by rfl, ?_⟩) ?_ ?_
                    rotate_left
                    · intro w'
                      go_simp
                      with_reducible rfl
                    rotate_left
                    · simp only [Act.put, List.setIfInBounds_toArray, List.set_cons_zero, List.set_cons_succ, i64_w, i32_w]
                      rfl
                    refine one_ (i := 3) (N := some 77) #[true, true, true, true, false, false, false, false] rfl rfl (by kernel_rfl) (by decide) (fun K hK => ?_)
                    refine goes_ Try.func78 (by kernel_rfl) rfl #[.slice A1 x.length c1] (by rfl) rfl rfl (by (try simp only [List.map_toArray, List.map_cons, List.map_nil]); first | done | rfl) ?_
                    refine (spec_l1Own.calls A1 c1 x x _ (Kd.C_below HX.out HB.out) HXC.out (spec_WithDanger.own x HLEN.out.2)).mono ?_
                    rintro e wa ⟨v77, rfl, ho, hb⟩
                    refine ⟨_, rfl, ?_⟩
                    have LT := Aside0.mk (Kd.S_lt HS.out)
                    have LT44 := Aside0.mk (blk_lt Y44.out)
                    have BS := Aside0.mk (Kd.R_base ho)
                    have HS2 := Aside0.mk (Kd.S_mono (ok' := fun k_ => (True) ∧ ¬ some k_ = v77.ownBlock) (Kd.S_below (Kd.S_mono (ok' := fun k_ => (True) ∧ k_ < wd.heap.size) (Kd.S_bound HS.out) (fun _ hk => ⟨hk.1, hk.2.2.1⟩)) hb) (fun k_ hk => ⟨hk.1, fun e_ => by have h9 := BS.out k_ e_.symm; have h8 := hk.2; omega⟩))
                    have HO := Aside0.mk (Kd.R_tight rfl (Kd.R_lower ho (below_size HB.out)))
                    replace Y6 := Aside0.mk (blk_below (g := g6) Y6.out hb)
                    replace Y9 := Aside0.mk (blk_below (g := g9) Y9.out hb)
                    replace Y44 := Aside0.mk (blk_below (g := g44) Y44.out hb)
                    replace HS := Aside0.mk (Kd.S_below HS.out hb)
                    replace HB := Aside0.mk (below_step HB.out hb)
                    clear hb ho
                    obtain ⟨A77, c77, e77⟩ := Kd.R_slice HO.out
                    subst e77
                    refine hK.out _ _ ((blk_cell Y9.out 1).trans rfl) (fun hHeld => ?_)
                    clear hK K
                    refine norm_ (a' := ?_) ?_ ?_
                    rotate_left
                    · show Act.put _ (some 77) _ = _
                      simp only [Act.put, List.setIfInBounds_toArray, List.set_cons_zero, List.set_cons_succ, i64_w, i32_w]
                      rfl
                    refine one_ (i := 4) (N := some 78) #[true, true, true, true, true, false, false, false] rfl rfl (by kernel_rfl) (by decide) (fun K hK => ?_)
                    refine event_step (v := .slice (some ⟨wa.heap.size, 0, none⟩) 1 1) (w1 := wa.alloc (.cells #[.slice A77 x.length c77] 51)) (by rfl) ?hr ?_
                    (case hr => first | (go_simp; done) | (go_simp; rfl))
                    refine hK.out _ _ (pw_cell_below (below_alloc (Below.refl _ _) _) hHeld) (fun hHeld => ?_)
                    clear hK K
                    refine norm_ (a' := ?_) ?_ ?_
                    rotate_left
                    · show Act.put _ (some 78) _ = _
                      simp only [Act.put, List.setIfInBounds_toArray, List.set_cons_zero, List.set_cons_succ, i64_w, i32_w]
                      rfl
                    refine one_ (i := 5) (N := some 79) #[true, true, true, true, true, true, false, false] rfl rfl (by kernel_rfl) (by decide) (fun K hK => ?_)
                    refine Kd.S_append_step (Kd.slice 3 (Kd.int .i64)) (w0 := w) w.heap.size (by rfl) (.tmp 75) (.tmp 78) 22 51 (.slice none 0 0) 24 rfl Try.underlying22 spec_WithDanger.infoS rfl (by decide) (by omega) (.slice A72 y.length c72) y x [.slice A77 x.length c77] (fun k_ => True) (fun k_ => some k_ = (.slice A77 x.length c77 : Value).ownBlock) rfl rfl ?aP (fun k_ hk_ => ⟨trivial, fun e_ => by have h9 := LT.out k_ e_.symm; have h8 := BS.out k_ hk_.symm; omega⟩) ?aF ?aO ?aB ?aS ?aL ?_
                    (case aP => exact ⟨_, rfl, HO.out⟩)
                    (case aF => exact (fun _ _ => trivial))
                    (case aO => exact HS2.out)
                    (case aB => exact HB.out)
                    (case aS => exact below_size HB.out)
                    (case aL => have := HOUT.out; omega)
                    intro v79 w7 ho hb hg hat
                    rw [← HY2.out] at ho
                    replace Y6 := Aside0.mk (blk_grown (g := g6) Y6.out hg (Kd.S_ne HS.out Y6.out (by decide)))
                    replace Y9 := Aside0.mk (blk_grown (g := g9) Y9.out hg (Kd.S_ne HS.out Y9.out (by decide)))
                    replace Y44 := Aside0.mk (blk_grown (g := g44) Y44.out hg (Kd.S_ne HS.out Y44.out (by decide)))
                    replace HB := Aside0.mk hb
                    replace HS := Aside0.mk ho
                    clear ho hb hg hat HO LT BS HS2 LT44
                    obtain ⟨A79, c79, e79⟩ := Kd.S_slice HS.out
                    subst e79
                    refine hK.out _ _ ((blk_cell Y9.out 1).trans rfl) (fun hHeld => ?_)
                    clear hK K
                    refine norm_ (a' := ?_) ?_ ?_
                    rotate_left
                    · show Act.put _ (some 79) _ = _
                      simp only [Act.put, List.setIfInBounds_toArray, List.set_cons_zero, List.set_cons_succ, i64_w, i32_w]
                      rfl
                    refine pure_ (i := 6) (N := some 80) (v := ?_) (a' := ?_) #[true, true, true, true, true, true, true, false] rfl rfl (by kernel_rfl) (fun _ _ _ h => h) (Or.inl ⟨by rfl, ?_⟩) ?_ ?_
                    rotate_left
                    · intro w'
                      go_simp
                      with_reducible rfl
                    rotate_left
                    · simp only [Act.put, List.setIfInBounds_toArray, List.set_cons_zero, List.set_cons_succ, i64_w, i32_w]
                      rfl
                    have hz0 : w7.cell? ⟨g9, 1, none⟩ = some (.slice A72 y.length c72) := (blk_cell Y9.out 1).trans rfl
                    have hf0 := blk_frozen Y9.out 1
                    refine last_ (i := 7) (N := none) #[true, true, true, true, true, true, true, true] rfl rfl (by kernel_rfl) (by decide) (fun K hK => ?_)
                    refine skip_ (w1 := ?_) (by rfl) rfl ?_ ?_
                    rotate_left
                    · go_simp
                      rfl
                    refine hK.out _ _ ?_
                    clear hK K
                    refine done_ (by kernel_rfl) ?_
                    clear hz0 hf0
                    replace HS := Aside0.mk (Kd.S_mono (Kd.S_far (p := ⟨g9, 1, none⟩) (Kd.S_types HS.out Y9.out (by decide)) (fun _ hk => hk.2) (.slice A79 y2.length c79)) (fun _ hk => hk.1))
                    replace Y6 := Aside0.mk (blk_far Y6.out (p := ⟨g9, 1, none⟩) (fun e_ => nY9Y6_.out e_) (.slice A79 y2.length c79))
                    replace Y44 := Aside0.mk (blk_far Y44.out (p := ⟨g9, 1, none⟩) (fun e_ => nY9Y44_.out e_) (.slice A79 y2.length c79))
                    replace HB := Aside0.mk (below_set (j := 1) (v := .slice A79 y2.length c79) HB.out GY9.out)
                    replace Y9 := Aside0.mk (blk_put Y9.out 1 (.slice A79 y2.length c79) rfl)
                    generalize w7.setCell ⟨g9, 1, none⟩ (.slice A79 y2.length c79) = w8 at HS Y6 Y44 Y9 HB ⊢
                    replace Y9 : Aside0 (w8.heap[g9]? = some (.cells #[.int .i64 a0_0, .slice A79 y2.length c79, .int .i64 a0_2] 27 (0, 0))) := ⟨Y9.out⟩
                    (try go_wp2)
                    go_roundg (l0_1.length - (kk + 1))
                    case measure => omega
                    case rel => exact ⟨kk + 1, true, y2, A79, c79, (by have hbig : l0_1.length ≤ 9223372036854775807 := HR.out.2.1; rw [show wrap64 ((kk : Int) + 1) = ((kk + 1 : Nat) : Int) from by unfold wrap64; omega]), rfl, by omega, by omega, HG, Y6, Y9, Y44, ⟨Kd.S_mono HS.out (fun _ _ => .inl rfl)⟩, HB⟩
                  | false =>
                    rw [if_neg (by decide)] at hG
                    obtain ⟨y2, hy2⟩ : ∃ y2, y2 = out ++ [x] := ⟨_, rfl⟩
                    rw [← hy2] at hG
                    have HY2 := Aside0.mk hy2
                    clear hy2
                    have HG := Aside0.mk hG
                    clear hG
                    go_wp2_with (first | (go_at_call 76; refine (spec_l1Same.calls k A1 c1 x (some ⟨g44, 0, none⟩) 2 [lo, hi] false _ (Kd.C_below HX.out HB.out) HXC.out (spec_WithDanger.row2C Y44.out) (Nat.le_refl _) A5.out).mono ?_; rintro e ws ⟨rfl, hd⟩; have hb := hd.below; clear hd; replace Y6 := Aside0.mk (blk_below (g := g6) Y6.out hb); replace Y9 := Aside0.mk (blk_below (g := g9) Y9.out hb); replace Y44 := Aside0.mk (blk_below (g := g44) Y44.out hb); replace HS := Aside0.mk (Kd.S_below HS.out hb); replace HB := Aside0.mk (below_step HB.out hb); clear hb; have hz60 : ws.cell? ⟨g6, 0, none⟩ = some (.int .i64 0) := (blk_cell Y6.out 0).trans rfl; have hf60 := blk_frozen Y6.out 0; have hz61 : ws.cell? ⟨g6, 1, none⟩ = some (.slice none 0 0) := (blk_cell Y6.out 1).trans rfl; have hf61 := blk_frozen Y6.out 1; have hz62 : ws.cell? ⟨g6, 2, none⟩ = some (.int .i64 0) := (blk_cell Y6.out 2).trans rfl; have hf62 := blk_frozen Y6.out 2) | (go_at_call 77; refine (spec_keBefore.calls (some ⟨g44, 0, none⟩) 2 [lo, hi] A1 c1 x false _ (spec_WithDanger.row2C Y44.out) (Nat.le_refl _) (Kd.C_below HX.out HB.out) HXC.out A6.out).mono ?_; rintro e wb ⟨rfl, hd⟩; have hb := hd.below; clear hd; replace Y6 := Aside0.mk (blk_below (g := g6) Y6.out hb); replace Y9 := Aside0.mk (blk_below (g := g9) Y9.out hb); replace Y44 := Aside0.mk (blk_below (g := g44) Y44.out hb); replace HS := Aside0.mk (Kd.S_below HS.out hb); replace HB := Aside0.mk (below_step HB.out hb); clear hb))
                    (try clear hcx hz60 hz61 hz62 hf60 hf61 hf62)
                    replace HS := Aside0.mk (Kd.S_drew HS.out)
                    replace Y6 := Aside0.mk (blk_drew Y6.out)
                    replace Y9 := Aside0.mk (blk_drew Y9.out)
                    replace Y44 := Aside0.mk (blk_drew Y44.out)
                    replace HB := Aside0.mk (below_drew1 HB.out)
                    refine start_ (n := 8) (S := fun w' => w'.cell? ⟨g9, 1, none⟩ = some (.slice A9 out.length c9)) (ds := [7]) #[false, false, false, false, false, false, false, false] (by kernel_rfl) rfl rfl ((blk_cell Y9.out 1).trans rfl) (fun hHeld => ?_)
                    generalize wb.drew = wd at HS Y6 Y9 Y44 HB hHeld ⊢
                    refine pure_ (i := 0) (N := some 74) (v := ?_) (a' := ?_) #[true, false, false, false, false, false, false, false] rfl rfl (by kernel_rfl) (fun _ _ _ h => h) (Or.inl ⟨by rfl, ?_⟩) ?_ ?_
                    rotate_left
                    · intro w'
                      go_simp
                      with_reducible rfl
                    rotate_left
                    · simp only [Act.put, List.setIfInBounds_toArray, List.set_cons_zero, List.set_cons_succ, i64_w, i32_w]
                      rfl
                    refine take_ (i := 1) (N := some 75) (v := ?_) (a' := ?_) #[true, true, false, false, false, false, false, false] rfl rfl (by kernel_rfl) (fun _ _ _ h => h) (Or.inl ⟨by rfl, ?_⟩) hHeld ?_ ?_
                    rotate_left
                    · rintro w' s0
                      go_simp
                      with_reducible rfl
                    rotate_left
                    · simp only [Act.put, List.setIfInBounds_toArray, List.set_cons_zero, List.set_cons_succ, i64_w, i32_w]
                      rfl
                    refine pure_ (i := 2) (N := some 76) (v := ?_) (a' := ?_) #[true, true, true, false, false, false, false, false] rfl rfl (by kernel_rfl) (fun _ _ _ h => h) (Or.inl ⟨by rfl, ?_⟩) ?_ ?_
                    rotate_left
                    · intro w'
                      go_simp
                      with_reducible rfl
                    rotate_left
                    · simp only [Act.put, List.setIfInBounds_toArray, List.set_cons_zero, List.set_cons_succ, i64_w, i32_w]
                      rfl
                    refine one_ (i := 3) (N := some 77) #[true, true, true, true, false, false, false, false] rfl rfl (by kernel_rfl) (by decide) (fun K hK => ?_)
                    refine goes_ Try.func78 (by kernel_rfl) rfl #[.slice A1 x.length c1] (by rfl) rfl rfl (by (try simp only [List.map_toArray, List.map_cons, List.map_nil]); first | done | rfl) ?_
                    refine (spec_l1Own.calls A1 c1 x x _ (Kd.C_below HX.out HB.out) HXC.out (spec_WithDanger.own x HLEN.out.2)).mono ?_
                    rintro e wa ⟨v77, rfl, ho, hb⟩
                    refine ⟨_, rfl, ?_⟩
                    have LT := Aside0.mk (Kd.S_lt HS.out)
                    have LT44 := Aside0.mk (blk_lt Y44.out)
                    have BS := Aside0.mk (Kd.R_base ho)
                    have HS2 := Aside0.mk (Kd.S_mono (ok' := fun k_ => (k_ ≠ g44) ∧ ¬ some k_ = v77.ownBlock) (Kd.S_below (Kd.S_mono (ok' := fun k_ => (k_ ≠ g44) ∧ k_ < wd.heap.size) (Kd.S_bound HS.out) (fun _ hk => ⟨hk.1, hk.2.2.1⟩)) hb) (fun k_ hk => ⟨hk.1, fun e_ => by have h9 := BS.out k_ e_.symm; have h8 := hk.2; omega⟩))
                    have HO := Aside0.mk (Kd.R_tight rfl (Kd.R_lower ho (below_size HB.out)))
                    replace Y6 := Aside0.mk (blk_below (g := g6) Y6.out hb)
                    replace Y9 := Aside0.mk (blk_below (g := g9) Y9.out hb)
                    replace Y44 := Aside0.mk (blk_below (g := g44) Y44.out hb)
                    replace HS := Aside0.mk (Kd.S_below HS.out hb)
                    replace HB := Aside0.mk (below_step HB.out hb)
                    clear hb ho
                    obtain ⟨A77, c77, e77⟩ := Kd.R_slice HO.out
                    subst e77
                    refine hK.out _ _ ((blk_cell Y9.out 1).trans rfl) (fun hHeld => ?_)
                    clear hK K
                    refine norm_ (a' := ?_) ?_ ?_
                    rotate_left
                    · show Act.put _ (some 77) _ = _
                      simp only [Act.put, List.setIfInBounds_toArray, List.set_cons_zero, List.set_cons_succ, i64_w, i32_w]
                      rfl
                    refine one_ (i := 4) (N := some 78) #[true, true, true, true, true, false, false, false] rfl rfl (by kernel_rfl) (by decide) (fun K hK => ?_)
                    refine event_step (v := .slice (some ⟨wa.heap.size, 0, none⟩) 1 1) (w1 := wa.alloc (.cells #[.slice A77 x.length c77] 51)) (by rfl) ?hr ?_
                    (case hr => first | (go_simp; done) | (go_simp; rfl))
                    refine hK.out _ _ (pw_cell_below (below_alloc (Below.refl _ _) _) hHeld) (fun hHeld => ?_)
                    clear hK K
                    refine norm_ (a' := ?_) ?_ ?_
                    rotate_left
                    · show Act.put _ (some 78) _ = _
                      simp only [Act.put, List.setIfInBounds_toArray, List.set_cons_zero, List.set_cons_succ, i64_w, i32_w]
                      rfl
                    refine one_ (i := 5) (N := some 79) #[true, true, true, true, true, true, false, false] rfl rfl (by kernel_rfl) (by decide) (fun K hK => ?_)
                    refine Kd.S_append_step (Kd.slice 3 (Kd.int .i64)) (w0 := w) w.heap.size (by rfl) (.tmp 75) (.tmp 78) 22 51 (.slice none 0 0) 24 rfl Try.underlying22 spec_WithDanger.infoS rfl (by decide) (by omega) (.slice A9 out.length c9) out x [.slice A77 x.length c77] (fun k_ => k_ ≠ g44) (fun k_ => some k_ = (.slice A77 x.length c77 : Value).ownBlock) rfl rfl ?aP (fun k_ hk_ => ⟨(by have h9 := BS.out k_ hk_.symm; have h8 := LT44.out; omega), fun e_ => by have h9 := LT.out k_ e_.symm; have h8 := BS.out k_ hk_.symm; omega⟩) ?aF ?aO ?aB ?aS ?aL ?_
                    (case aP => exact ⟨_, rfl, HO.out⟩)
                    (case aF => exact (fun k_ hk_ => by have h9 := blk_lt Y44.out; omega))
                    (case aO => exact HS2.out)
                    (case aB => exact HB.out)
                    (case aS => exact below_size HB.out)
                    (case aL => have := HOUT.out; omega)
                    intro v79 w7 ho hb hg hat
                    rw [← HY2.out] at ho
                    replace Y6 := Aside0.mk (blk_grown (g := g6) Y6.out hg (Kd.S_ne HS.out Y6.out (by decide)))
                    replace Y9 := Aside0.mk (blk_grown (g := g9) Y9.out hg (Kd.S_ne HS.out Y9.out (by decide)))
                    replace Y44 := Aside0.mk (blk_grown (g := g44) Y44.out hg (Kd.S_ne HS.out Y44.out (by decide)))
                    replace HB := Aside0.mk hb
                    replace HS := Aside0.mk ho
                    clear ho hb hg hat HO LT BS HS2 LT44
                    obtain ⟨A79, c79, e79⟩ := Kd.S_slice HS.out
                    subst e79
                    refine hK.out _ _ ((blk_cell Y9.out 1).trans rfl) (fun hHeld => ?_)
                    clear hK K
                    refine norm_ (a' := ?_) ?_ ?_
                    rotate_left
                    · show Act.put _ (some 79) _ = _
                      simp only [Act.put, List.setIfInBounds_toArray, List.set_cons_zero, List.set_cons_succ, i64_w, i32_w]
                      rfl
                    refine pure_ (i := 6) (N := some 80) (v := ?_) (a' := ?_) #[true, true, true, true, true, true, true, false] rfl rfl (by kernel_rfl) (fun _ _ _ h => h) (Or.inl ⟨by rfl, ?_⟩) ?_ ?_
                    rotate_left
                    · intro w'
                      go_simp
                      with_reducible rfl
                    rotate_left
                    · simp only [Act.put, List.setIfInBounds_toArray, List.set_cons_zero, List.set_cons_succ, i64_w, i32_w]
                      rfl
                    have hz0 : w7.cell? ⟨g9, 1, none⟩ = some (.slice A9 out.length c9) := (blk_cell Y9.out 1).trans rfl
                    have hf0 := blk_frozen Y9.out 1
                    refine last_ (i := 7) (N := none) #[true, true, true, true, true, true, true, true] rfl rfl (by kernel_rfl) (by decide) (fun K hK => ?_)
                    refine skip_ (w1 := ?_) (by rfl) rfl ?_ ?_
                    rotate_left
                    · go_simp
                      rfl
                    refine hK.out _ _ ?_
                    clear hK K
                    refine done_ (by kernel_rfl) ?_
                    clear hz0 hf0
                    replace HS := Aside0.mk (Kd.S_mono (Kd.S_far (p := ⟨g9, 1, none⟩) (Kd.S_types HS.out Y9.out (by decide)) (fun _ hk => hk.2) (.slice A79 y2.length c79)) (fun _ hk => hk.1))
                    replace Y6 := Aside0.mk (blk_far Y6.out (p := ⟨g9, 1, none⟩) (fun e_ => nY9Y6_.out e_) (.slice A79 y2.length c79))
                    replace Y44 := Aside0.mk (blk_far Y44.out (p := ⟨g9, 1, none⟩) (fun e_ => nY9Y44_.out e_) (.slice A79 y2.length c79))
                    replace HB := Aside0.mk (below_set (j := 1) (v := .slice A79 y2.length c79) HB.out GY9.out)
                    replace Y9 := Aside0.mk (blk_put Y9.out 1 (.slice A79 y2.length c79) rfl)
                    generalize w7.setCell ⟨g9, 1, none⟩ (.slice A79 y2.length c79) = w8 at HS Y6 Y44 Y9 HB ⊢
                    replace Y9 : Aside0 (w8.heap[g9]? = some (.cells #[.int .i64 a0_0, .slice A79 y2.length c79, .int .i64 a0_2] 27 (0, 0))) := ⟨Y9.out⟩
                    (try go_wp2)
                    go_roundg (l0_1.length - (kk + 1))
                    case measure => omega
                    case rel => exact ⟨kk + 1, false, y2, A79, c79, (by have hbig : l0_1.length ≤ 9223372036854775807 := HR.out.2.1; rw [show wrap64 ((kk : Int) + 1) = ((kk + 1 : Nat) : Int) from by unfold wrap64; omega]), rfl, by omega, by omega, HG, Y6, Y9, Y44, ⟨Kd.S_mono HS.out (fun _ hk => .inr hk)⟩, HB⟩
            · have hltz : ¬ (kk : Int) < (l0_1.length : Int) := by omega
              have hk2 : kk = l0_1.length := by omega
              subst hk2
              have hG := AG.out
              rw [List.drop_length, spec_WithDanger.go] at hG
              obtain rfl := Option.some.inj hG
              clear hG AG
              cases put with
              | true =>
                have H := show some (a0_0, out, a0_2, true) = some (r1, r2, r3, r4) from HRES.out
                simp only [Option.some.injEq, Prod.mk.injEq] at H
                obtain ⟨rfl, rfl, rfl, rfl⟩ := H
                have hz90 : wr.cell? ⟨g9, 0, none⟩ = some (.int .i64 a0_0) := (blk_cell Y9.out 0).trans rfl; have hf90 := blk_frozen Y9.out 0; have hz91 : wr.cell? ⟨g9, 1, none⟩ = some (.slice A9 out.length c9) := (blk_cell Y9.out 1).trans rfl; have hf91 := blk_frozen Y9.out 1; have hz92 : wr.cell? ⟨g9, 2, none⟩ = some (.int .i64 a0_2) := (blk_cell Y9.out 2).trans rfl; have hf92 := blk_frozen Y9.out 2
                have hz60 : wr.cell? ⟨g6, 0, none⟩ = some (.int .i64 0) := (blk_cell Y6.out 0).trans rfl; have hf60 := blk_frozen Y6.out 0; have hz61 : wr.cell? ⟨g6, 1, none⟩ = some (.slice none 0 0) := (blk_cell Y6.out 1).trans rfl; have hf61 := blk_frozen Y6.out 1; have hz62 : wr.cell? ⟨g6, 2, none⟩ = some (.int .i64 0) := (blk_cell Y6.out 2).trans rfl; have hf62 := blk_frozen Y6.out 2
                go_wp2
                refine bodyPost_ret (results_ct rfl _ _ g6 27 #[.int .i64 a0_0, .slice A9 out.length c9, .int .i64 a0_2] (0, 0) _ rfl (by refine blk_put (cs := #[.int .i64 a0_0, .slice A9 out.length c9, .int .i64 0]) ?_ 2 _ rfl; refine blk_put (cs := #[.int .i64 a0_0, .slice none 0 0, .int .i64 0]) ?_ 1 _ rfl; refine blk_put (cs := #[.int .i64 0, .slice none 0 0, .int .i64 0]) ?_ 0 _ rfl; exact Y6.out) Try.underlying27 rfl (by kernel_rfl)) rfl ?_
                exact ⟨_, rfl, Kd.S_mono (Kd.S_far (p := ⟨g6, 2, none⟩) (Kd.S_far (p := ⟨g6, 1, none⟩) (Kd.S_far (p := ⟨g6, 0, none⟩) (Kd.S_types HS.out Y6.out (by decide)) (fun _ hk => hk.2) _) (fun _ hk => hk.2) _) (fun _ hk => hk.2) _) (fun _ _ => trivial), by repeat (first | exact HB.out | refine below_set ?_ GY6.out)⟩
              | false =>
                have H := show (if out.length < 1048576 then some (a0_0, out ++ [[lo, hi]], a0_2, true) else none) = some (r1, r2, r3, r4) from HRES.out
                by_cases hlen : out.length < 1048576
                case neg =>
                  rw [if_neg hlen] at H
                  cases H
                rw [if_pos hlen] at H
                have HOUT := Aside0.mk hlen
                clear hlen
                obtain ⟨y, hy⟩ : ∃ y, y = out ++ [[lo, hi]] := ⟨_, rfl⟩
                rw [← hy] at H
                have HY := Aside0.mk hy
                clear hy
                simp only [Option.some.injEq, Prod.mk.injEq] at H
                obtain ⟨rfl, rfl, rfl, rfl⟩ := H
                replace HS := Aside0.mk (Kd.S_mono (ok' := fun k_ => k_ ≠ g44) HS.out (fun _ hk => hk.resolve_left (by decide)))
                have hz91 : wr.cell? ⟨g9, 1, none⟩ = some (.slice A9 out.length c9) := (blk_cell Y9.out 1).trans rfl
                go_upto_region 18 with (first | ((with_reducible refine gate_builtin (b := .append) (xs := #[.tmp 85, .tmp 87]) rfl ?_); at_builtin; refine Kd.S_append (Kd.slice 3 (Kd.int .i64)) (w0 := w) (W := wr) w.heap.size rfl (.tmp 85) (.tmp 87) 22 51 (.slice none 0 0) 24 rfl Try.underlying22 spec_WithDanger.infoS rfl (by decide) (by omega) (.slice A9 out.length c9) out [lo, hi] [(.slice (some ⟨g44, 0, none⟩) 2 2)] (fun _ => True) (fun k_ => k_ = g44) rfl rfl ⟨_, rfl, spec_WithDanger.row2 Y44.out GY44.out⟩ (fun k_ hk_ => ⟨trivial, fun e_ => by subst hk_; exact Kd.S_ne HS.out Y44.out (by decide) e_⟩) (fun _ _ => trivial) (Kd.S_mono HS.out (fun _ hk_ => ⟨trivial, hk_⟩)) HB.out (below_size HB.out) (by have := HOUT.out; omega) ?_; intro v72 wp ho hb hg _; rw [← HY.out] at ho; replace Y6 := Aside0.mk (blk_grown (g := g6) Y6.out hg (Kd.S_ne HS.out Y6.out (by decide))); replace Y9 := Aside0.mk (blk_grown (g := g9) Y9.out hg (Kd.S_ne HS.out Y9.out (by decide))); replace Y44 := Aside0.mk (blk_grown (g := g44) Y44.out hg (Kd.S_ne HS.out Y44.out (by decide))); replace HS := Aside0.mk ho; replace HB := Aside0.mk hb; clear ho hb hg; obtain ⟨A72, c72, e72⟩ := Kd.S_slice HS.out; subst e72; (try clear hz91 hf91); have hz91 : wp.cell? ⟨g9, 1, none⟩ = some (.slice A9 out.length c9) := (blk_cell Y9.out 1).trans rfl; have hf91 := blk_frozen Y9.out 1))
                (try simp only [Act.put, List.setIfInBounds_toArray, List.set_cons_zero, List.set_cons_succ])
                (try clear hz91 hf91)
                replace HS := Aside0.mk (Kd.S_mono (Kd.S_far (p := ⟨g9, 1, none⟩) (Kd.S_types HS.out Y9.out (by decide)) (fun _ hk => hk.2) (.slice A72 y.length c72)) (fun _ hk => hk.1))
                replace Y6 := Aside0.mk (blk_far Y6.out (p := ⟨g9, 1, none⟩) (fun e_ => nY9Y6_.out e_) (.slice A72 y.length c72))
                replace Y44 := Aside0.mk (blk_far Y44.out (p := ⟨g9, 1, none⟩) (fun e_ => nY9Y44_.out e_) (.slice A72 y.length c72))
                replace HB := Aside0.mk (below_set (j := 1) (v := .slice A72 y.length c72) HB.out GY9.out)
                replace Y9 := Aside0.mk (blk_put Y9.out 1 (.slice A72 y.length c72) rfl)
                generalize wp.setCell ⟨g9, 1, none⟩ (.slice A72 y.length c72) = wq at HS Y6 Y44 Y9 HB ⊢
                replace Y9 : Aside0 (wq.heap[g9]? = some (.cells #[.int .i64 a0_0, .slice A72 y.length c72, .int .i64 a0_2] 27 (0, 0))) := ⟨Y9.out⟩
                have hz90 : wq.cell? ⟨g9, 0, none⟩ = some (.int .i64 a0_0) := (blk_cell Y9.out 0).trans rfl; have hf90 := blk_frozen Y9.out 0; have hz91 : wq.cell? ⟨g9, 1, none⟩ = some (.slice A72 y.length c72) := (blk_cell Y9.out 1).trans rfl; have hf91 := blk_frozen Y9.out 1; have hz92 : wq.cell? ⟨g9, 2, none⟩ = some (.int .i64 a0_2) := (blk_cell Y9.out 2).trans rfl; have hf92 := blk_frozen Y9.out 2
                have hz60 : wq.cell? ⟨g6, 0, none⟩ = some (.int .i64 0) := (blk_cell Y6.out 0).trans rfl; have hf60 := blk_frozen Y6.out 0; have hz61 : wq.cell? ⟨g6, 1, none⟩ = some (.slice none 0 0) := (blk_cell Y6.out 1).trans rfl; have hf61 := blk_frozen Y6.out 1; have hz62 : wq.cell? ⟨g6, 2, none⟩ = some (.int .i64 0) := (blk_cell Y6.out 2).trans rfl; have hf62 := blk_frozen Y6.out 2
                go_wp2
                refine bodyPost_ret (results_ct rfl _ _ g6 27 #[.int .i64 a0_0, .slice A72 y.length c72, .int .i64 a0_2] (0, 0) _ rfl (by refine blk_put (cs := #[.int .i64 a0_0, .slice A72 y.length c72, .int .i64 0]) ?_ 2 _ rfl; refine blk_put (cs := #[.int .i64 a0_0, .slice none 0 0, .int .i64 0]) ?_ 1 _ rfl; refine blk_put (cs := #[.int .i64 0, .slice none 0 0, .int .i64 0]) ?_ 0 _ rfl; exact Y6.out) Try.underlying27 rfl (by kernel_rfl)) rfl ?_
                exact ⟨_, rfl, Kd.S_mono (Kd.S_far (p := ⟨g6, 2, none⟩) (Kd.S_far (p := ⟨g6, 1, none⟩) (Kd.S_far (p := ⟨g6, 0, none⟩) (Kd.S_types HS.out Y6.out (by decide)) (fun _ hk => hk.2) _) (fun _ hk => hk.2) _) (fun _ hk => hk.2) _) (fun _ _ => trivial), by repeat (first | exact HB.out | refine below_set ?_ GY6.out)⟩

/-! ### impl_in: function 49 -/
def impl_in.f (a0 : Int) (a1 : Int) (a2 : Int) : Option (Bool) := if a1 ≤ a0 then (some (decide (a0 ≤ a2))) else (some false)
set_option maxHeartbeats 8000000 in
set_option maxRecDepth 100000 in
theorem impl_in.calls (a0 : Int) (a1 : Int) (a2 : Int) (r : Bool) (w : World) (h : impl_in.f a0 a1 a2 = some r) :
    Calls Try.prog 49 #[.int .i64 a0, .int .i64 a1, .int .i64 a2] w fun e w' => e = .returned (.bool r) ∧ Drawn0 w w' := by
  have H : (if a1 ≤ a0 then (some (decide (a0 ≤ a2))) else (some false)) = some r := h
  clear h
  by_cases c4 : a1 ≤ a0
  · rw [if_pos c4] at H
    have c4b0 : decide (a1 ≤ a0) = true := decide_eq_true c4
    clear c4
    obtain rfl := Option.some.inj H
    go_enter Try.func49, Try.ntmps49
    go_wp2
    go_ret
    exact ⟨by first | rfl | (simp; done) | (simp [*]; done), by repeat (first | exact Drawn0.refl _ | apply Drawn0.step)⟩
  · rw [if_neg c4] at H
    have c4b0 : decide (a1 ≤ a0) = false := decide_eq_false c4
    clear c4
    obtain rfl := Option.some.inj H
    go_enter Try.func49, Try.ntmps49
    go_wp2
    go_ret
    exact ⟨by first | rfl | (simp; done) | (simp [*]; done), by repeat (first | exact Drawn0.refl _ | apply Drawn0.step)⟩

end Go.Proofs.Ytomiikbcahocaaa.G
