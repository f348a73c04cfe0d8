-- Laid by wip/gprint.py (the session's own program, round the kit's printer) for this claim.
import Derived.Test.YtomiikbcahocaaaGWdx0
import Derived.Test.YtomiikbcahocaaaGWdx1
import Derived.Test.YtomiikbcahocaaaGWdx2
import Derived.Test.YtomiikbcahocaaaGWdx3
import Derived.Test.YtomiikbcahocaaaGWdx7
namespace Go.Proofs.Ytomiikbcahocaaa.G
open Go.RowKit Go.Proofs.YtomiikbcahocaaaW.PrintWords Go.Proofs.YtomiikbcahocaaaW.PrintLast Go.Proofs.YtomiikbcahocaaaW.PrintMore
attribute [local go_sem] max2_int min2_int max_two min_two max_three min_three max_four min_four   -- for this text's walks alone
set_option linter.unusedVariables false
set_option linter.unusedSimpArgs false

/-! ### laws_heldIntS: function 67 -/
def laws_heldIntS.l0 : Nat → List Int → Int → Int → Option (Int)
  | 0, _, _, _ => none
  | k + 1, x0, x1, x5 => if x5 < (x0.length : Int) then (if 0 ≤ x5 then (if (rd x0 x5) = x1 then (laws_heldIntS.l0 k x0 (wrap64 (x1 + 1)) (wrap64 (x5 + 1))) else (some (-1))) else (none)) else (some x1)
def laws_heldIntS.f (k : Nat) (l0 : List Int) (a1 : Int) : Option (Int) := laws_heldIntS.l0 k l0 a1 0
set_option maxHeartbeats 8000000 in
set_option maxRecDepth 100000 in
theorem laws_heldIntS.calls (k : Nat) (A0 : Option Addr) (c0 : Nat) (l0 : List Int) (a1 : Int) (r : Int) (w : World) (hr0 : Kd.C (Kd.int .i64) w A0 l0.length l0) (hc0 : l0.length ≤ c0) (h : laws_heldIntS.f k l0 a1 = some r) :
    Calls Try.prog 67 #[.slice A0 l0.length c0, .int .i64 a1] w fun e w' => e = .returned (.int .i64 r) ∧ Drawn0 w w' := by
  have HR0 := Aside0.mk hr0
  have HC0 := Aside0.mk hc0
  clear hr0 hc0
  have H : (laws_heldIntS.l0 k l0 a1 0) = some r := h
  clear h
  have H' := Aside0.mk H
  clear H
  go_enter Try.func67, Try.ntmps67
  go_wp2
  go_loopg [1, 5] k (fun kq v1 v5 w' => ∃ (x1_1 : Int) (x5_1 : Int), v1 = .int .i64 x1_1 ∧ v5 = .int .i64 x5_1 ∧ Aside0 (laws_heldIntS.l0 kq l0 x1_1 x5_1 = some r) ∧ Aside0 (kq ≤ k) ∧ Drawn0 w w')
  case atStart => exact ⟨(a1), (0), (by first | rfl | (simp; done) | (simp [*]; done)), (by first | rfl | (simp; done) | (simp [*]; done)), H', ⟨Nat.le_refl _⟩, by repeat (first | exact Drawn0.refl _ | apply Drawn0.step)⟩
  case round =>
    clear H'
    try clear p2
    obtain ⟨x1_1, x5_1, rfl, rfl, HA, HK1, ⟨m1, rfl⟩⟩ := hrel
    cases gk with
    | zero => exact absurd HA.out (by simp [laws_heldIntS.l0])
    | succ k1 =>
      have H := HA.out
      clear HA
      simp only [laws_heldIntS.l0] at H
      by_cases c3 : x5_1 < (l0.length : Int)
      · rw [if_pos c3] at H
        have c3b0 : decide (x5_1 < (l0.length : Int)) = true := decide_eq_true c3
        clear c3
        by_cases c4 : 0 ≤ x5_1
        · rw [if_pos c4] at H
          have c4b0 : decide (0 ≤ x5_1) = true := decide_eq_true c4
          clear c4
          by_cases c5 : (rd l0 x5_1) = x1_1
          · rw [if_pos c5] at H
            have c5b0 : ((rd l0 x5_1) == x1_1) = true := beq_iff_eq.mpr c5
            have c5b1 : ((rd l0 x5_1) != x1_1) = false := bne_eq_false_iff_eq.mpr c5
            clear c5
            have H' := Aside0.mk H
            clear H
            have p183 : 0 ≤ (x5_1 : Int) := of_decide_eq_true (by first | (with_reducible assumption) | assumption)
            have q183 : x5_1 < (l0.length : Int) := of_decide_eq_true (by first | (with_reducible assumption) | assumption)
            obtain ⟨ad183, e183, hx183_0⟩ := Kd.at_int HR0.out x5_1 p183 q183
            cases e183
            replace p183 := eq_true p183
            replace q183 := eq_true q183
            go_wp2
            go_roundg k1
            case measure => have := HK1.out; omega
            case rel => exact ⟨(wrap64 (x1_1 + 1)), (wrap64 (x5_1 + 1)), (by first | rfl | (simp; done) | (simp [*]; done)), (by first | rfl | (simp; done) | (simp [*]; done)), H', ⟨by have := HK1.out; omega⟩, by repeat (first | exact Drawn0.refl _ | apply Drawn0.step)⟩
          · rw [if_neg c5] at H
            have c5b0 : ((rd l0 x5_1) == x1_1) = false := beq_eq_false_iff_ne.mpr c5
            have c5b1 : ((rd l0 x5_1) != x1_1) = true := bne_iff_ne.mpr c5
            obtain rfl := Option.some.inj H
            have p183 : 0 ≤ (x5_1 : Int) := of_decide_eq_true (by first | (with_reducible assumption) | assumption)
            have q183 : x5_1 < (l0.length : Int) := of_decide_eq_true (by first | (with_reducible assumption) | assumption)
            obtain ⟨ad183, e183, hx183_0⟩ := Kd.at_int HR0.out x5_1 p183 q183
            cases e183
            replace p183 := eq_true p183
            replace q183 := eq_true q183
            go_wp2
            go_ret
            exact ⟨by first | rfl | (simp; done) | (simp [*]; done), by repeat (first | exact Drawn0.refl _ | apply Drawn0.step)⟩
        · rw [if_neg c4] at H
          exact absurd H (by simp)
      · rw [if_neg c3] at H
        have c3b0 : decide (x5_1 < (l0.length : Int)) = false := decide_eq_false c3
        clear c3
        obtain rfl := Option.some.inj H
        go_wp2
        go_ret
        exact ⟨by first | rfl | (simp; done) | (simp [*]; done), by repeat (first | exact Drawn0.refl _ | apply Drawn0.step)⟩

/-! ### laws_heldIntSS: function 35 -/
def laws_heldIntSS.l0 : Nat → List (List Int) → Int → Int → Option (Int)
  | 0, _, _, _ => none
  | k + 1, x0, x1, x5 => if x5 < (x0.length : Int) then (if 0 ≤ x5 then ((laws_heldIntS.f k (rd_L1 x0 x5) x1).bind fun t185 => (if t185 < 0 then (some (-1)) else (laws_heldIntSS.l0 k x0 t185 (wrap64 (x5 + 1))))) else (none)) else (some x1)
def laws_heldIntSS.f (k : Nat) (l0 : List (List Int)) (a1 : Int) : Option (Int) := laws_heldIntSS.l0 k l0 a1 0
set_option maxHeartbeats 8000000 in
set_option maxRecDepth 100000 in
theorem laws_heldIntSS.calls (k : Nat) (A0 : Option Addr) (c0 : Nat) (l0 : List (List Int)) (a1 : Int) (r : Int) (w : World) (hr0 : Kd.C (Kd.slice 3 (Kd.int .i64)) w A0 l0.length l0) (hc0 : l0.length ≤ c0) (h : laws_heldIntSS.f k l0 a1 = some r) :
    Calls Try.prog 35 #[.slice A0 l0.length c0, .int .i64 a1] w fun e w' => e = .returned (.int .i64 r) ∧ Drawn0 w w' := by
  have HR0 := Aside0.mk hr0
  have HC0 := Aside0.mk hc0
  clear hr0 hc0
  have H : (laws_heldIntSS.l0 k l0 a1 0) = some r := h
  clear h
  have H' := Aside0.mk H
  clear H
  go_enter Try.func35, Try.ntmps35
  go_wp2
  go_loopg [1, 5] k (fun kq v1 v5 w' => ∃ (x1_1 : Int) (x5_1 : Int), v1 = .int .i64 x1_1 ∧ v5 = .int .i64 x5_1 ∧ Aside0 (laws_heldIntSS.l0 kq l0 x1_1 x5_1 = some r) ∧ Aside0 (kq ≤ k) ∧ Drawn0 w w')
  case atStart => exact ⟨(a1), (0), (by first | rfl | (simp; done) | (simp [*]; done)), (by first | rfl | (simp; done) | (simp [*]; done)), H', ⟨Nat.le_refl _⟩, by repeat (first | exact Drawn0.refl _ | apply Drawn0.step)⟩
  case round =>
    clear H'
    try clear p2
    obtain ⟨x1_1, x5_1, rfl, rfl, HA, HK1, ⟨m1, rfl⟩⟩ := hrel
    cases gk with
    | zero => exact absurd HA.out (by simp [laws_heldIntSS.l0])
    | succ k1 =>
      have H := HA.out
      clear HA
      simp only [laws_heldIntSS.l0] at H
      by_cases c3 : x5_1 < (l0.length : Int)
      · rw [if_pos c3] at H
        have c3b0 : decide (x5_1 < (l0.length : Int)) = true := decide_eq_true c3
        clear c3
        by_cases c4 : 0 ≤ x5_1
        · rw [if_pos c4] at H
          have c4b0 : decide (0 ≤ x5_1) = true := decide_eq_true c4
          clear c4
          replace H := Option.bind_eq_some_iff.mp H
          obtain ⟨t185, A50, H⟩ := H
          replace H : (if t185 < 0 then (some (-1)) else (laws_heldIntSS.l0 k1 l0 t185 (wrap64 (x5_1 + 1)))) = some r := H
          have A5 := Aside0.mk A50
          clear A50
          by_cases c6 : t185 < 0
          · rw [if_pos c6] at H
            have c6b0 : decide (t185 < 0) = true := decide_eq_true c6
            clear c6
            obtain rfl := Option.some.inj H
            have p184 : 0 ≤ (x5_1 : Int) := of_decide_eq_true (by first | (with_reducible assumption) | assumption)
            have q184 : x5_1 < (l0.length : Int) := of_decide_eq_true (by first | (with_reducible assumption) | assumption)
            obtain ⟨ad184, A184_0, c184_0, e184, hx184_0, hl184_0, hi184_0⟩ := at_L1 HR0.out x5_1 p184 q184
            cases e184
            have HR184_0 := Aside0.mk hi184_0
            have HC184_0 := Aside0.mk hl184_0
            clear hi184_0 hl184_0
            replace p184 := eq_true p184
            replace q184 := eq_true q184
            go_wp2_with (first | ((with_reducible refine gate_callee (f := 67) rfl ?_); refine goesL_ (some 17) rfl rfl Try.func67 (by kernel_rfl) rfl #[.slice A184_0 (rd_L1 l0 x5_1).length c184_0, .int .i64 x1_1] rfl (by (try simp only [List.map_toArray, List.map_cons, List.map_nil]); first | done | rfl | (simp only [List.length_drop, List.length_take]; rfl)) ?_; (with_reducible refine (laws_heldIntS.calls k1 _ _ (rd_L1 l0 x5_1) x1_1 t185 _ ?side1 ?side2 A5.out).mono ?_); (case side1 => repeat (first | exact HR184_0.out | (with_reducible refine Kd.C_alloc ?_ _) | (with_reducible refine Kd.C_drewN ?_ _) | (with_reducible refine Kd.C_drew ?_))); (case side2 => exact HC184_0.out); rintro e w' ⟨rfl, ⟨nd, rfl⟩⟩; refine ⟨_, rfl, ?_⟩))
            go_ret
            exact ⟨by first | rfl | (simp; done) | (simp [*]; done), by repeat (first | exact Drawn0.refl _ | apply Drawn0.step)⟩
          · rw [if_neg c6] at H
            have c6b0 : decide (t185 < 0) = false := decide_eq_false c6
            clear c6
            have H' := Aside0.mk H
            clear H
            have p184 : 0 ≤ (x5_1 : Int) := of_decide_eq_true (by first | (with_reducible assumption) | assumption)
            have q184 : x5_1 < (l0.length : Int) := of_decide_eq_true (by first | (with_reducible assumption) | assumption)
            obtain ⟨ad184, A184_0, c184_0, e184, hx184_0, hl184_0, hi184_0⟩ := at_L1 HR0.out x5_1 p184 q184
            cases e184
            have HR184_0 := Aside0.mk hi184_0
            have HC184_0 := Aside0.mk hl184_0
            clear hi184_0 hl184_0
            replace p184 := eq_true p184
            replace q184 := eq_true q184
            go_wp2_with (first | ((with_reducible refine gate_callee (f := 67) rfl ?_); refine goesL_ (some 17) rfl rfl Try.func67 (by kernel_rfl) rfl #[.slice A184_0 (rd_L1 l0 x5_1).length c184_0, .int .i64 x1_1] rfl (by (try simp only [List.map_toArray, List.map_cons, List.map_nil]); first | done | rfl | (simp only [List.length_drop, List.length_take]; rfl)) ?_; (with_reducible refine (laws_heldIntS.calls k1 _ _ (rd_L1 l0 x5_1) x1_1 t185 _ ?side1 ?side2 A5.out).mono ?_); (case side1 => repeat (first | exact HR184_0.out | (with_reducible refine Kd.C_alloc ?_ _) | (with_reducible refine Kd.C_drewN ?_ _) | (with_reducible refine Kd.C_drew ?_))); (case side2 => exact HC184_0.out); rintro e w' ⟨rfl, ⟨nd, rfl⟩⟩; refine ⟨_, rfl, ?_⟩))
            go_roundg k1
            case measure => have := HK1.out; omega
            case rel => exact ⟨(t185), (wrap64 (x5_1 + 1)), (by first | rfl | (simp; done) | (simp [*]; done)), (by first | rfl | (simp; done) | (simp [*]; done)), H', ⟨by have := HK1.out; omega⟩, by repeat (first | exact Drawn0.refl _ | apply Drawn0.step)⟩
        · rw [if_neg c4] at H
          exact absurd H (by simp)
      · rw [if_neg c3] at H
        have c3b0 : decide (x5_1 < (l0.length : Int)) = false := decide_eq_false c3
        clear c3
        obtain rfl := Option.some.inj H
        go_wp2
        go_ret
        exact ⟨by first | rfl | (simp; done) | (simp [*]; done), by repeat (first | exact Drawn0.refl _ | apply Drawn0.step)⟩

/-! ### laws_heldKeep: function 47 -/
def laws_heldKeep.f (k : Nat) (a0_0 : Int) (l0_1 : List (List Int)) (a0_2 : Int) (a1 : Int) : Option (Int) := (laws_heldIntSS.f k l0_1 a1).bind fun t187 => (if t187 < 0 then (some (-1)) else (some t187))
set_option maxHeartbeats 8000000 in
set_option maxRecDepth 100000 in
theorem laws_heldKeep.calls (k : Nat) (a0_0 : Int) (A0_1 : Option Addr) (c0_1 : Nat) (l0_1 : List (List Int)) (a0_2 : Int) (a1 : Int) (r : Int) (w : World) (hr0_1 : Kd.C (Kd.slice 3 (Kd.int .i64)) w A0_1 l0_1.length l0_1) (hc0_1 : l0_1.length ≤ c0_1) (h : laws_heldKeep.f k a0_0 l0_1 a0_2 a1 = some r) :
    Calls Try.prog 47 #[.agg #[.int .i64 a0_0, .slice A0_1 l0_1.length c0_1, .int .i64 a0_2], .int .i64 a1] w fun e w' => e = .returned (.int .i64 r) ∧ Below w.heap.size w w' := by
  have hu27 := Try.underlying27
  have HR0_1 := Aside0.mk hr0_1
  have HC0_1 := Aside0.mk hc0_1
  clear hr0_1 hc0_1
  have HB := Aside0.mk (Below.refl w.heap.size w)
  have H : ((laws_heldIntSS.f k l0_1 a1).bind fun t187 => (if t187 < 0 then (some (-1)) else (some t187))) = some r := h
  clear h
  replace H := Option.bind_eq_some_iff.mp H
  obtain ⟨t187, A30, H⟩ := H
  replace H : (if t187 < 0 then (some (-1)) else (some t187)) = some r := H
  have A3 := Aside0.mk A30
  clear A30
  by_cases c4 : t187 < 0
  · rw [if_pos c4] at H
    have c4b0 : decide (t187 < 0) = true := decide_eq_true c4
    clear c4
    obtain rfl := Option.some.inj H
    go_enter Try.func47, Try.ntmps47
    go_wp2_with (first | ((with_reducible refine gate_dst (N := 2) rfl ?_); refine box_event ?hg (N := 2) ?hd (cs := #[.int .i64 a0_0, .slice A0_1 l0_1.length c0_1, .int .i64 a0_2]) (t := 27) ?hr ?_; (case hd => rfl); (case hg => rfl); (case hr => first | (go_simp; done) | (go_simp; rfl)); intro gb186 hg w5 hbox hb; have n0_ := Aside0.mk (below_step (by repeat (first | (with_reducible first | exact HB.out | apply below_alloc | apply pw_below_drewN | apply below_drew1) | exact HB.out)) hb); have n1_ := Aside0.mk (hbox); have n2_ := Aside0.mk ((by rw [hg]; exact (below_size (by repeat (first | (with_reducible first | exact HB.out | apply below_alloc | apply pw_below_drewN | apply below_drew1) | exact HB.out))) : w.heap.size ≤ gb186)); have n3_ := Aside0.mk ((by rw [hg]; exact (below_size (by repeat (first | (with_reducible first | exact HB.out | apply below_alloc | apply pw_below_drewN | apply below_drew1) | exact HB.out))) : w.heap.size ≤ gb186)); clear HB; have HB := n0_; have BK186 := n1_; have GW186 := n2_; have GE186 := n3_; clear n0_ n1_ n2_ n3_; clear hb hbox hg; have hcz6_0 : w5.cell? ⟨gb186, 0, none⟩ = some (.int .i64 a0_0) := (blk_cell BK186.out 0).trans rfl; have hcz6_1 : w5.cell? ⟨gb186, 1, none⟩ = some (.slice A0_1 l0_1.length c0_1) := (blk_cell BK186.out 1).trans rfl; have hcz6_2 : w5.cell? ⟨gb186, 2, none⟩ = some (.int .i64 a0_2) := (blk_cell BK186.out 2).trans rfl; have hfz6_0 := blk_frozen BK186.out 0; have hfz6_1 := blk_frozen BK186.out 1; have hfz6_2 := blk_frozen BK186.out 2) | ((with_reducible refine gate_callee (f := 35) rfl ?_); refine goesL_ (some 8) rfl rfl Try.func35 (by kernel_rfl) rfl #[.slice A0_1 l0_1.length c0_1, .int .i64 a1] rfl (by (try simp only [List.map_toArray, List.map_cons, List.map_nil]); first | done | rfl | (simp only [List.length_drop, List.length_take]; rfl)) ?_; (with_reducible refine (laws_heldIntSS.calls k _ _ l0_1 a1 t187 _ ?side1 ?side2 A3.out).mono ?_); (case side1 => repeat (first | exact (Kd.C_below HR0_1.out HB.out) | (with_reducible refine Kd.C_alloc ?_ _) | (with_reducible refine Kd.C_drewN ?_ _) | (with_reducible refine Kd.C_drew ?_))); (case side2 => exact HC0_1.out); rintro e w' ⟨rfl, ⟨nd, rfl⟩⟩; refine ⟨_, rfl, ?_⟩))
    go_ret
    exact ⟨by first | rfl | (simp [errW_none, errW_some] <;> rfl) | (simp [*, errW_none, errW_some] <;> rfl), by repeat (first | (with_reducible first | exact HB.out | apply below_alloc | apply pw_below_drewN | apply below_drew1 | refine below_set ?_ GE186.out) | exact HB.out)⟩
  · rw [if_neg c4] at H
    have c4b0 : decide (t187 < 0) = false := decide_eq_false c4
    clear c4
    obtain rfl := Option.some.inj H
    go_enter Try.func47, Try.ntmps47
    go_wp2_with (first | ((with_reducible refine gate_dst (N := 2) rfl ?_); refine box_event ?hg (N := 2) ?hd (cs := #[.int .i64 a0_0, .slice A0_1 l0_1.length c0_1, .int .i64 a0_2]) (t := 27) ?hr ?_; (case hd => rfl); (case hg => rfl); (case hr => first | (go_simp; done) | (go_simp; rfl)); intro gb186 hg w7 hbox hb; have n0_ := Aside0.mk (below_step (by repeat (first | (with_reducible first | exact HB.out | apply below_alloc | apply pw_below_drewN | apply below_drew1) | exact HB.out)) hb); have n1_ := Aside0.mk (hbox); have n2_ := Aside0.mk ((by rw [hg]; exact (below_size (by repeat (first | (with_reducible first | exact HB.out | apply below_alloc | apply pw_below_drewN | apply below_drew1) | exact HB.out))) : w.heap.size ≤ gb186)); have n3_ := Aside0.mk ((by rw [hg]; exact (below_size (by repeat (first | (with_reducible first | exact HB.out | apply below_alloc | apply pw_below_drewN | apply below_drew1) | exact HB.out))) : w.heap.size ≤ gb186)); clear HB; have HB := n0_; have BK186 := n1_; have GW186 := n2_; have GE186 := n3_; clear n0_ n1_ n2_ n3_; clear hb hbox hg; have hcz8_0 : w7.cell? ⟨gb186, 0, none⟩ = some (.int .i64 a0_0) := (blk_cell BK186.out 0).trans rfl; have hcz8_1 : w7.cell? ⟨gb186, 1, none⟩ = some (.slice A0_1 l0_1.length c0_1) := (blk_cell BK186.out 1).trans rfl; have hcz8_2 : w7.cell? ⟨gb186, 2, none⟩ = some (.int .i64 a0_2) := (blk_cell BK186.out 2).trans rfl; have hfz8_0 := blk_frozen BK186.out 0; have hfz8_1 := blk_frozen BK186.out 1; have hfz8_2 := blk_frozen BK186.out 2) | ((with_reducible refine gate_callee (f := 35) rfl ?_); refine goesL_ (some 8) rfl rfl Try.func35 (by kernel_rfl) rfl #[.slice A0_1 l0_1.length c0_1, .int .i64 a1] rfl (by (try simp only [List.map_toArray, List.map_cons, List.map_nil]); first | done | rfl | (simp only [List.length_drop, List.length_take]; rfl)) ?_; (with_reducible refine (laws_heldIntSS.calls k _ _ l0_1 a1 t187 _ ?side1 ?side2 A3.out).mono ?_); (case side1 => repeat (first | exact (Kd.C_below HR0_1.out HB.out) | (with_reducible refine Kd.C_alloc ?_ _) | (with_reducible refine Kd.C_drewN ?_ _) | (with_reducible refine Kd.C_drew ?_))); (case side2 => exact HC0_1.out); rintro e w' ⟨rfl, ⟨nd, rfl⟩⟩; refine ⟨_, rfl, ?_⟩))
    go_ret
    exact ⟨by first | rfl | (simp [errW_none, errW_some] <;> rfl) | (simp [*, errW_none, errW_some] <;> rfl), by repeat (first | (with_reducible first | exact HB.out | apply below_alloc | apply pw_below_drewN | apply below_drew1 | refine below_set ?_ GE186.out) | exact HB.out)⟩

/-! ### laws_FnExactWithDanger: function 11 -/
theorem laws_FnExactWithDanger.newR {α : Type} {d : Kd α} {e T : Nat} {w W W' : World} {v : Value} {xs : List α} (h : d.R e W' W.heap.size (fun _ => True) v xs) (ht : T ≤ W.heap.size) (hw : w.heap.size ≤ W.heap.size) (hs : W.heap.size ≤ W'.heap.size) : ∃ lo hi : Nat, (T ≤ lo ∧ lo ≤ hi) ∧ hi ≤ W'.heap.size ∧ d.R e W' w.heap.size (fun k_ => lo ≤ k_ ∧ k_ < hi) v xs :=
  ⟨W.heap.size, W'.heap.size, ⟨ht, hs⟩, Nat.le_refl _, Kd.R_lower (Kd.R_mono (Kd.R_bound h) (fun _ hk => ⟨hk.2.1, hk.2.2.1⟩)) hw⟩
theorem laws_FnExactWithDanger.newS {α : Type} {d : Kd α} {e T : Nat} {w W W' : World} {v : Value} {xs : List α} (h : Kd.S d e W' W.heap.size (fun _ => True) v xs) (ht : T ≤ W.heap.size) (hw : w.heap.size ≤ W.heap.size) (hs : W.heap.size ≤ W'.heap.size) : ∃ lo hi : Nat, (T ≤ lo ∧ lo ≤ hi) ∧ hi ≤ W'.heap.size ∧ Kd.S d e W' w.heap.size (fun k_ => lo ≤ k_ ∧ k_ < hi) v xs :=
  ⟨W.heap.size, W'.heap.size, ⟨ht, hs⟩, Nat.le_refl _, Kd.S_lower (Kd.S_mono (Kd.S_bound h) (fun _ hk => ⟨hk.2.1, hk.2.2.1⟩)) hw⟩
theorem laws_FnExactWithDanger.newN {α : Type} {d : Kd α} {e T : Nat} {w W W' : World} {v : Value} {xs : List α} (h : Kd.N d e W' W.heap.size (fun k_ => W.heap.size ≤ k_) v xs) (ht : T ≤ W.heap.size) (hw : w.heap.size ≤ W.heap.size) (hs : W.heap.size ≤ W'.heap.size) : ∃ lo hi : Nat, (T ≤ lo ∧ lo ≤ hi) ∧ hi ≤ W'.heap.size ∧ Kd.N d e W' w.heap.size (fun k_ => lo ≤ k_ ∧ k_ < hi) v xs :=
  ⟨W.heap.size, W'.heap.size, ⟨ht, hs⟩, Nat.le_refl _, Kd.N_lower (Kd.N_mono (Kd.N_bound h) (fun _ hk => hk)) hw⟩
theorem laws_FnExactWithDanger.grownN {α : Type} {d : Kd α} {e b lo hi g : Nat} {W W' : World} {v : Value} {xs : List α} (h : Kd.N d e W b (fun k_ => lo ≤ k_ ∧ k_ < hi) v xs) (hg : W.grownBy W' (some g)) (hne : g < lo ∨ hi ≤ g) : Kd.N d e W' b (fun k_ => lo ≤ k_ ∧ k_ < hi) v xs :=
  Kd.N_grown h hg (fun k hk he => by injection he with he; have h1 := hk.1; have h2 := hk.2; omega)
theorem laws_FnExactWithDanger.keptN {α : Type} {d : Kd α} {e b lo hi lo' hi' : Nat} {W W' : World} {v : Value} {xs : List α} (h : Kd.N d e W b (fun k_ => lo ≤ k_ ∧ k_ < hi) v xs) (hk : Kept W W' (fun k_ => lo' ≤ k_ ∧ k_ < hi')) (hne : hi ≤ lo' ∨ hi' ≤ lo) : Kd.N d e W' b (fun k_ => lo ≤ k_ ∧ k_ < hi) v xs :=
  Kd.N_kept h hk (fun k h1 h2 => by have h3 := h1.1; have h4 := h1.2; have h5 := h2.1; have h6 := h2.2; omega)
theorem laws_FnExactWithDanger.grownR {α : Type} {d : Kd α} {e b lo hi g : Nat} {W W' : World} {v : Value} {xs : List α} (h : d.R e W b (fun k_ => lo ≤ k_ ∧ k_ < hi) v xs) (hg : W.grownBy W' (some g)) (hne : g < lo ∨ hi ≤ g) : d.R e W' b (fun k_ => lo ≤ k_ ∧ k_ < hi) v xs :=
  Kd.R_grown h hg (fun k hk he => by injection he with he; have h1 := hk.1; have h2 := hk.2; omega)
theorem laws_FnExactWithDanger.grownS {α : Type} {d : Kd α} {e b lo hi g : Nat} {W W' : World} {v : Value} {xs : List α} (h : Kd.S d e W b (fun k_ => lo ≤ k_ ∧ k_ < hi) v xs) (hg : W.grownBy W' (some g)) (hne : g < lo ∨ hi ≤ g) : Kd.S d e W' b (fun k_ => lo ≤ k_ ∧ k_ < hi) v xs :=
  Kd.S_grown h hg (fun k hk he => by injection he with he; have h1 := hk.1; have h2 := hk.2; omega)
theorem laws_FnExactWithDanger.keptR {α : Type} {d : Kd α} {e b lo hi lo' hi' : Nat} {W W' : World} {v : Value} {xs : List α} (h : d.R e W b (fun k_ => lo ≤ k_ ∧ k_ < hi) v xs) (hk : Kept W W' (fun k_ => lo' ≤ k_ ∧ k_ < hi')) (hne : hi ≤ lo' ∨ hi' ≤ lo) : d.R e W' b (fun k_ => lo ≤ k_ ∧ k_ < hi) v xs :=
  Kd.R_kept h hk (fun k h1 h2 => by have h3 := h1.1; have h4 := h1.2; have h5 := h2.1; have h6 := h2.2; omega)
theorem laws_FnExactWithDanger.keptS {α : Type} {d : Kd α} {e b lo hi lo' hi' : Nat} {W W' : World} {v : Value} {xs : List α} (h : Kd.S d e W b (fun k_ => lo ≤ k_ ∧ k_ < hi) v xs) (hk : Kept W W' (fun k_ => lo' ≤ k_ ∧ k_ < hi')) (hne : hi ≤ lo' ∨ hi' ≤ lo) : Kd.S d e W' b (fun k_ => lo ≤ k_ ∧ k_ < hi) v xs :=
  Kd.S_kept h hk (fun k h1 h2 => by have h3 := h1.1; have h4 := h1.2; have h5 := h2.1; have h6 := h2.2; omega)
theorem laws_FnExactWithDanger.keptB {lo hi g : Nat} {o : Obj} {W W' : World} (h : W.heap[g]? = some o) (hk : Kept W W' (fun k_ => lo ≤ k_ ∧ k_ < hi)) (hne : g < lo ∨ hi ≤ g) : W'.heap[g]? = some o :=
  blk_kept h hk (fun h2 => by have h5 := h2.1; have h6 := h2.2; omega)
theorem laws_FnExactWithDanger.grownB {g g' : Nat} {o : Obj} {W W' : World} (h : W.heap[g]? = some o) (hg : W.grownBy W' (some g')) (hne : g ≠ g') : W'.heap[g]? = some o :=
  (hg.block g (blk_lt h) (fun he => hne (by injection he))).trans h
theorem laws_FnExactWithDanger.runs {P : Program} {W : World} {g T : Nat} {cur : Array Value} (t : TypeId) (u : Value) (new : List Value) (hb : W.heap[g]? = some (.cells cur T (0, 0))) (hu : u.cells.toList = new) (ht : (P.info? t).map (·.size) = some new.length) (hsz : new.length = cur.size) (h1 : ∀ q ∈ new, q.oneCell' = true) :
    ∃ w1, (Instr.storeAt t (.pointer (some ⟨g, 0, none⟩)) u).run P W = .ok () w1 ∧ w1.heap[g]? = some (.cells new.toArray T (0, 0)) ∧ W.grownBy w1 (some g) := by
  refine ⟨W.setCells g 0 new, run_store_run t u new hb hu ht (by omega) h1, ?_, ?_⟩
  · obtain ⟨cur', c1, c2, c3⟩ := setCells_row new 0 W cur hb (by omega)
    rw [c1]
    rw [List.take_zero, List.nil_append, Nat.zero_add, hsz, List.drop_eq_nil_of_le (by rw [Array.length_toList]; omega), List.append_nil] at c3
    rw [← c3]
  · obtain ⟨s1, s2, s3, s4⟩ := setCells_same g new 0 W
    exact ⟨s1, s2, s3, by rw [s4]; exact Nat.le_refl _, fun k _ hk => setCells_far _ _ k (fun he => hk (by rw [he]))⟩
theorem laws_FnExactWithDanger.store {P : Program} {ops : Array Oper} {rest : List Oper} {o : Oper} {a : Act} {Q : Exit → Act → World → Prop} {W : World} (hgd : o.guard = none) (hN : o.dst = none) {t : TypeId} {p : Tmp} {x : Operand} (ho : o.op = .store t (.tmp p) x) (g T : Nat) (cur : Array Value) (u : Value) (new : List Value) (haddr : a.eval (.tmp p) = .pointer (some ⟨g, 0, none⟩)) (hx : a.eval x = u) (hb : W.heap[g]? = some (.cells cur T (0, 0))) (hu : u.cells.toList = new) (ht : (P.info? t).map (·.size) = some new.length) (hsz : new.length = cur.size) (h1 : ∀ q ∈ new, q.oneCell' = true)
    (h : ∀ w1, w1.heap[g]? = some (.cells new.toArray T (0, 0)) → W.grownBy w1 (some g) → wpList P ops Q rest a w1) : wpList P ops Q (o :: rest) a W := by
  obtain ⟨w1, hrun, h2, h3⟩ := laws_FnExactWithDanger.runs (P := P) t u new hb hu ht hsz h1
  refine wpList_plain hgd fun K hK => ?_
  unfold Oper.wp execOp
  simp only [ho, haddr, hx, Sem.run_bind, Sem.run_pure, Result.andThen_ok, hrun]
  show K (a.put o.dst undef) _
  rw [hN]
  exact hK _ _ (h w1 h2 h3)
theorem laws_FnExactWithDanger.storeK {P : Program} {ops : Array Oper} {o : Oper} {a : Act} {Q : Exit → Act → World → Prop} {Kc : Act → World → Prop} {W : World} (hw : Region.wanted o (yielded ops a.tmps) = true) (hN : o.dst = none) {t : TypeId} {p : Tmp} {x : Operand} (ho : o.op = .store t (.tmp p) x) (g T : Nat) (cur : Array Value) (u : Value) (new : List Value) (haddr : a.eval (.tmp p) = .pointer (some ⟨g, 0, none⟩)) (hx : a.eval x = u) (hb : W.heap[g]? = some (.cells cur T (0, 0))) (hu : u.cells.toList = new) (ht : (P.info? t).map (·.size) = some new.length) (hsz : new.length = cur.size) (h1 : ∀ q ∈ new, q.oneCell' = true)
    (h : ∀ w1, w1.heap[g]? = some (.cells new.toArray T (0, 0)) → W.grownBy w1 (some g) → Kc a w1) : if Region.wanted o (yielded ops a.tmps) = true then Oper.wp P o a W Kc Q else Kc (a.put none undef) W := by
  obtain ⟨w1, hrun, h2, h3⟩ := laws_FnExactWithDanger.runs (P := P) t u new hb hu ht hsz h1
  rw [if_pos hw]
  unfold Oper.wp execOp
  simp only [ho, haddr, hx, Sem.run_bind, Sem.run_pure, Result.andThen_ok, hrun]
  show Kc (a.put o.dst undef) _
  rw [hN]
  exact h w1 h2 h3
def laws_FnExactWithDanger.f (k : Nat) (a0_0 : Int) (l0_1 : List (List Int)) (a0_2 : Int) (a1 : Int) (a2 : Int) : Option Bool := (laws_szKeep.f k a0_0 l0_1 a0_2 1048576).bind fun b1 => (if b1 < 0 then some true else ((laws_toKeep.f k a0_0 l0_1 a0_2).bind fun b3 => ((spec_WithDanger.f k b3.1 b3.2.1 b3.2.2 a1 a2).bind fun b8 => ((laws_toKeep.f k a0_0 l0_1 a0_2).bind fun b14 => ((impl_WithDanger.f k b14.1 b14.2.1 b14.2.2 a1 a2).bind fun b19 => ((laws_eqKeep.f k b19.1 b19.2.1 b19.2.2.1 b8.1 b8.2.1 b8.2.2.1).bind fun b25 => (if b25 = true then (if (b19.2.2.2 != b8.2.2.2) = true then none else ((laws_toKeep.f k a0_0 l0_1 a0_2).bind fun b27 => ((laws_eqKeep.f k b14.1 b14.2.1 b14.2.2 b27.1 b27.2.1 b27.2.2).bind fun b32 => (if b32 = true then ((laws_markKeep.f k b14.1 b14.2.1 b14.2.2 1).bind fun b34 => ((laws_eqKeep.f k b19.1 b19.2.1 b19.2.2.1 b8.1 b8.2.1 b8.2.2.1).bind fun b37 => (if b34.1 < 0 then none else (if b37 = true then (if (b19.2.2.2 != b8.2.2.2) = true then none else ((laws_markKeep.f k b19.1 b19.2.1 b19.2.2.1 1).bind fun b39 => ((laws_heldKeep.f k b19.1 b39.2 b19.2.2.1 1).bind fun b42 => (if b42 < 0 then none else (if b42 = b39.1 then ((laws_toKeep.f k a0_0 l0_1 a0_2).bind fun b44 => ((impl_WithDanger.f k b44.1 b44.2.1 b44.2.2 a1 a2).bind fun b49 => ((laws_eqKeep.f k b49.1 b49.2.1 b49.2.2.1 b8.1 b8.2.1 b8.2.2.1).bind fun b55 => (if b55 = true then (if (b49.2.2.2 != b8.2.2.2) = true then none else ((laws_heldKeep.f k b19.1 b39.2 b19.2.2.1 1).bind fun b57 => (if b57 < 0 then none else (if b57 = b39.1 then (some true) else none)))) else none)))) else none))))) else none)))) else none)))) else none)))))))
set_option maxHeartbeats 16000000 in
set_option maxRecDepth 100000 in
theorem laws_FnExactWithDanger.calls (k : Nat) (a0_0 : Int) (A0_1 : Option Addr) (c0_1 : Nat) (l0_1 : List (List Int)) (a0_2 : Int) (a1 : Int) (a2 : Int) (r : Bool) (w : World) (hr0_1 : Kd.C (Kd.slice 3 (Kd.int .i64)) w A0_1 l0_1.length l0_1) (hc0_1 : l0_1.length ≤ c0_1) (h : laws_FnExactWithDanger.f k a0_0 l0_1 a0_2 a1 a2 = some r) :
    Calls Try.prog 11 #[.agg #[.int .i64 a0_0, .slice A0_1 l0_1.length c0_1, .int .i64 a0_2], .int .i64 a1, .int .i64 a2] w fun e w' => e = .returned (.bool r) ∧ Below w.heap.size w w' := by
  have hu24 := Try.underlying24
  have hu27 := Try.underlying27
  have HR0_1 := Aside0.mk hr0_1
  have HC0_1 := Aside0.mk hc0_1
  clear hr0_1 hc0_1
  have HB := Aside0.mk (Below.refl w.heap.size w)
  have HT := Aside0.mk (Nat.le_refl w.heap.size)
  have HN := Aside0.mk trivial
  have H := h
  unfold laws_FnExactWithDanger.f at H
  clear h
  obtain ⟨t2, AQ1_, H⟩ := Option.bind_eq_some_iff.mp H
  have AQ1 := Aside0.mk AQ1_
  clear AQ1_
  (try dsimp only at AQ1 H)
  by_cases c59 : t2 < 0
  · rw [if_pos c59] at H
    have c59b0 : decide (t2 < 0) = true := decide_eq_true c59
    clear c59
    obtain rfl := Option.some.inj H
    go_enter Try.func11, Try.ntmps11
    try go_wp2_with (first | ((with_reducible refine gate_dst (N := 3) rfl ?_); refine box_event ?hg (N := 3) ?hd (cs := #[.int .i64 a0_0, .slice A0_1 l0_1.length c0_1, .int .i64 a0_2]) (t := 24) ?hr ?_; (case hd => rfl); (case hg => rfl); (case hr => first | (go_simp; done) | (go_simp; rfl)); intro gb1 hg W1 hbox hb; have nn : w.heap.size ≤ gb1 := Nat.le_trans HT.out (Nat.le_of_eq hg.symm); have GE1 := Aside0.mk (Nat.le_trans (below_size HB.out) (Nat.le_of_eq hg.symm)); replace HB := Aside0.mk (below_step HB.out hb); replace HT := Aside0.mk (Nat.le_trans HT.out hb.size); have BK1 := Aside0.mk hbox; replace HT := Aside0.mk (Nat.succ_le_of_lt (blk_lt hbox)); replace HN := Aside0.mk (And.intro nn HN.out); clear hg hbox hb nn; have cz1_0 : W1.cell? ⟨gb1, 0, none⟩ = some (.int .i64 a0_0) := (blk_cell BK1.out 0).trans rfl; have cz1_1 : W1.cell? ⟨gb1, 1, none⟩ = some (.slice A0_1 l0_1.length c0_1) := (blk_cell BK1.out 1).trans rfl; have cz1_2 : W1.cell? ⟨gb1, 2, none⟩ = some (.int .i64 a0_2) := (blk_cell BK1.out 2).trans rfl) | ((with_reducible refine gate_dst (N := 20) rfl ?_); refine goesL_ (some 20) rfl rfl Try.func12 (by kernel_rfl) rfl #[.agg #[.int .i64 a0_0, .slice A0_1 l0_1.length c0_1, .int .i64 a0_2], .int .i64 1048576] rfl (by (try simp only [List.map_toArray, List.map_cons, List.map_nil]); first | done | rfl) ?_; (with_reducible refine (laws_szKeep.calls k a0_0 _ _ l0_1 a0_2 1048576 t2 _ (Kd.C_below HR0_1.out HB.out) HC0_1.out AQ1.out).mono ?_); rintro e W2 ⟨rfl, hb⟩; refine ⟨_, rfl, ?_⟩; replace BK1 := Aside0.mk (blk_below (g := gb1) (o := .cells #[.int .i64 a0_0, .slice A0_1 l0_1.length c0_1, .int .i64 a0_2] 24 (0, 0)) BK1.out hb); replace HB := Aside0.mk (below_step HB.out hb); replace HT := Aside0.mk (Nat.le_trans HT.out hb.size); clear hb; (try clear cz1_0 cz1_1 cz1_2)))
    go_ret
    exact ⟨by first | rfl | (simp; done) | (simp [*]; done), HB.out⟩
  rw [if_neg c59] at H
  have c59b0 : decide (t2 < 0) = false := decide_eq_false c59
  clear c59
  obtain ⟨⟨t4, t5, t6⟩, AQ3_, H⟩ := Option.bind_eq_some_iff.mp H
  have AQ3 := Aside0.mk AQ3_
  clear AQ3_
  (try dsimp only at AQ3 H)
  obtain ⟨⟨t9, t10, t11, t12⟩, AQ8_, H⟩ := Option.bind_eq_some_iff.mp H
  have AQ8 := Aside0.mk AQ8_
  clear AQ8_
  (try dsimp only at AQ8 H)
  obtain ⟨⟨t15, t16, t17⟩, AQ14_, H⟩ := Option.bind_eq_some_iff.mp H
  have AQ14 := Aside0.mk AQ14_
  clear AQ14_
  (try dsimp only at AQ14 H)
  obtain ⟨⟨t20, t21, t22, t23⟩, AQ19_, H⟩ := Option.bind_eq_some_iff.mp H
  have AQ19 := Aside0.mk AQ19_
  clear AQ19_
  (try dsimp only at AQ19 H)
  obtain ⟨t26, AQ25_, H⟩ := Option.bind_eq_some_iff.mp H
  have AQ25 := Aside0.mk AQ25_
  clear AQ25_
  (try dsimp only at AQ25 H)
  rcases t26 with _ | _
  · rw [if_neg (by decide)] at H; cases H
  rw [if_pos rfl] at H
  by_cases c60 : (t23 != t12) = true
  · rw [if_pos c60] at H; cases H
  rw [if_neg c60] at H
  have c60b0 : (t23 != t12) = false := by simpa using c60
  have c60b1 : decide (t23 = t12) = true := by simpa using c60
  have c60b2 : (t23 == t12) = true := by simpa using c60
  clear c60
  obtain ⟨⟨t28, t29, t30⟩, AQ27_, H⟩ := Option.bind_eq_some_iff.mp H
  have AQ27 := Aside0.mk AQ27_
  clear AQ27_
  (try dsimp only at AQ27 H)
  obtain ⟨t33, AQ32_, H⟩ := Option.bind_eq_some_iff.mp H
  have AQ32 := Aside0.mk AQ32_
  clear AQ32_
  (try dsimp only at AQ32 H)
  rcases t33 with _ | _
  · rw [if_neg (by decide)] at H; cases H
  rw [if_pos rfl] at H
  obtain ⟨⟨t35, t36⟩, AQ34_, H⟩ := Option.bind_eq_some_iff.mp H
  have AQ34 := Aside0.mk AQ34_
  clear AQ34_
  (try dsimp only at AQ34 H)
  obtain ⟨t38, AQ37_, H⟩ := Option.bind_eq_some_iff.mp H
  have AQ37 := Aside0.mk AQ37_
  clear AQ37_
  (try dsimp only at AQ37 H)
  by_cases c61 : t35 < 0
  · rw [if_pos c61] at H; cases H
  rw [if_neg c61] at H
  have c61b0 : decide (t35 < 0) = false := decide_eq_false c61
  clear c61
  rcases t38 with _ | _
  · rw [if_neg (by decide)] at H; cases H
  rw [if_pos rfl] at H
  by_cases c62 : (t23 != t12) = true
  · rw [if_pos c62] at H; cases H
  rw [if_neg c62] at H
  have c62b0 : (t23 != t12) = false := by simpa using c62
  have c62b1 : decide (t23 = t12) = true := by simpa using c62
  have c62b2 : (t23 == t12) = true := by simpa using c62
  clear c62
  obtain ⟨⟨t40, t41⟩, AQ39_, H⟩ := Option.bind_eq_some_iff.mp H
  have AQ39 := Aside0.mk AQ39_
  clear AQ39_
  (try dsimp only at AQ39 H)
  obtain ⟨t43, AQ42_, H⟩ := Option.bind_eq_some_iff.mp H
  have AQ42 := Aside0.mk AQ42_
  clear AQ42_
  (try dsimp only at AQ42 H)
  by_cases c63 : t43 < 0
  · rw [if_pos c63] at H; cases H
  rw [if_neg c63] at H
  have c63b0 : decide (t43 < 0) = false := decide_eq_false c63
  clear c63
  by_cases c64 : t43 = t40
  rotate_left
  · rw [if_neg c64] at H; cases H
  rw [if_pos c64] at H
  have c64b0 : (t43 == t40) = true := beq_iff_eq.mpr c64
  have c64b1 : (t43 != t40) = false := bne_eq_false_iff_eq.mpr c64
  clear c64
  obtain ⟨⟨t45, t46, t47⟩, AQ44_, H⟩ := Option.bind_eq_some_iff.mp H
  have AQ44 := Aside0.mk AQ44_
  clear AQ44_
  (try dsimp only at AQ44 H)
  obtain ⟨⟨t50, t51, t52, t53⟩, AQ49_, H⟩ := Option.bind_eq_some_iff.mp H
  have AQ49 := Aside0.mk AQ49_
  clear AQ49_
  (try dsimp only at AQ49 H)
  obtain ⟨t56, AQ55_, H⟩ := Option.bind_eq_some_iff.mp H
  have AQ55 := Aside0.mk AQ55_
  clear AQ55_
  (try dsimp only at AQ55 H)
  rcases t56 with _ | _
  · rw [if_neg (by decide)] at H; cases H
  rw [if_pos rfl] at H
  by_cases c65 : (t53 != t12) = true
  · rw [if_pos c65] at H; cases H
  rw [if_neg c65] at H
  have c65b0 : (t53 != t12) = false := by simpa using c65
  have c65b1 : decide (t53 = t12) = true := by simpa using c65
  have c65b2 : (t53 == t12) = true := by simpa using c65
  clear c65
  obtain ⟨t58, AQ57_, H⟩ := Option.bind_eq_some_iff.mp H
  have AQ57 := Aside0.mk AQ57_
  clear AQ57_
  (try dsimp only at AQ57 H)
  by_cases c66 : t58 < 0
  · rw [if_pos c66] at H; cases H
  rw [if_neg c66] at H
  have c66b0 : decide (t58 < 0) = false := decide_eq_false c66
  clear c66
  by_cases c67 : t58 = t40
  rotate_left
  · rw [if_neg c67] at H; cases H
  rw [if_pos c67] at H
  have c67b0 : (t58 == t40) = true := beq_iff_eq.mpr c67
  have c67b1 : (t58 != t40) = false := bne_eq_false_iff_eq.mpr c67
  clear c67
  obtain rfl := Option.some.inj H
  clear H
  go_enter Try.func11, Try.ntmps11
  try go_wp2_with (first | ((with_reducible refine gate_dst (N := 3) rfl ?_); refine box_event ?hg (N := 3) ?hd (cs := #[.int .i64 a0_0, .slice A0_1 l0_1.length c0_1, .int .i64 a0_2]) (t := 24) ?hr ?_; (case hd => rfl); (case hg => rfl); (case hr => first | (go_simp; done) | (go_simp; rfl)); intro gb1 hg W3 hbox hb; have nn : w.heap.size ≤ gb1 := Nat.le_trans HT.out (Nat.le_of_eq hg.symm); have GE1 := Aside0.mk (Nat.le_trans (below_size HB.out) (Nat.le_of_eq hg.symm)); replace HB := Aside0.mk (below_step HB.out hb); replace HT := Aside0.mk (Nat.le_trans HT.out hb.size); have BK1 := Aside0.mk hbox; replace HT := Aside0.mk (Nat.succ_le_of_lt (blk_lt hbox)); replace HN := Aside0.mk (And.intro nn HN.out); clear hg hbox hb nn; have cz1_0 : W3.cell? ⟨gb1, 0, none⟩ = some (.int .i64 a0_0) := (blk_cell BK1.out 0).trans rfl; have cz1_1 : W3.cell? ⟨gb1, 1, none⟩ = some (.slice A0_1 l0_1.length c0_1) := (blk_cell BK1.out 1).trans rfl; have cz1_2 : W3.cell? ⟨gb1, 2, none⟩ = some (.int .i64 a0_2) := (blk_cell BK1.out 2).trans rfl) | ((with_reducible refine gate_dst (N := 20) rfl ?_); refine goesL_ (some 20) rfl rfl Try.func12 (by kernel_rfl) rfl #[.agg #[.int .i64 a0_0, .slice A0_1 l0_1.length c0_1, .int .i64 a0_2], .int .i64 1048576] rfl (by (try simp only [List.map_toArray, List.map_cons, List.map_nil]); first | done | rfl) ?_; (with_reducible refine (laws_szKeep.calls k a0_0 _ _ l0_1 a0_2 1048576 t2 _ (Kd.C_below HR0_1.out HB.out) HC0_1.out AQ1.out).mono ?_); rintro e W4 ⟨rfl, hb⟩; refine ⟨_, rfl, ?_⟩; replace BK1 := Aside0.mk (blk_below (g := gb1) (o := .cells #[.int .i64 a0_0, .slice A0_1 l0_1.length c0_1, .int .i64 a0_2] 24 (0, 0)) BK1.out hb); replace HB := Aside0.mk (below_step HB.out hb); replace HT := Aside0.mk (Nat.le_trans HT.out hb.size); clear hb; (try clear cz1_0 cz1_1 cz1_2); have cz1_0 : W4.cell? ⟨gb1, 0, none⟩ = some (.int .i64 a0_0) := (blk_cell BK1.out 0).trans rfl; have cz1_1 : W4.cell? ⟨gb1, 1, none⟩ = some (.slice A0_1 l0_1.length c0_1) := (blk_cell BK1.out 1).trans rfl; have cz1_2 : W4.cell? ⟨gb1, 2, none⟩ = some (.int .i64 a0_2) := (blk_cell BK1.out 2).trans rfl) | ((with_reducible refine gate_dst (N := 25) rfl ?_); refine goesL_ (some 25) rfl rfl Try.func14 (by kernel_rfl) rfl #[.agg #[.int .i64 a0_0, .slice A0_1 l0_1.length c0_1, .int .i64 a0_2]] rfl (by (try simp only [List.map_toArray, List.map_cons, List.map_nil]); first | done | rfl) ?_; (with_reducible refine (laws_toKeep.calls k a0_0 _ _ l0_1 a0_2 t4 t5 t6 _ (Kd.C_below HR0_1.out HB.out) HC0_1.out AQ3.out).mono ?_); rintro e W5 ⟨v7, rfl, ho7, hb⟩; refine ⟨_, rfl, ?_⟩; obtain ⟨B7, d7, e_⟩ := Kd.S_slice ho7; subst e_; obtain ⟨lo7, hi7, nn, ht_, hO7⟩ := laws_FnExactWithDanger.newS ho7 HT.out (below_size HB.out) hb.size; replace BK1 := Aside0.mk (blk_below (g := gb1) (o := .cells #[.int .i64 a0_0, .slice A0_1 l0_1.length c0_1, .int .i64 a0_2] 24 (0, 0)) BK1.out hb); replace HB := Aside0.mk (below_step HB.out hb); replace HT := Aside0.mk (Nat.le_trans HT.out hb.size); have HO7 := Aside0.mk hO7; replace HT := Aside0.mk ht_; replace HN := Aside0.mk (And.intro nn HN.out); clear ho7 hO7 nn ht_; clear hb; (try clear cz1_0 cz1_1 cz1_2)) | ((with_reducible refine gate_dst (N := 28) rfl ?_); refine goesL_ (some 28) rfl rfl Try.func45 (by kernel_rfl) rfl #[.agg #[.int .i64 t4, .slice B7 t5.length d7, .int .i64 t6], .int .i64 a1, .int .i64 a2] rfl (by (try simp only [List.map_toArray, List.map_cons, List.map_nil]); first | done | rfl) ?_; (with_reducible refine (spec_WithDanger.calls k t4 _ _ t5 t6 a1 a2 t9 t10 t11 t12 _ (Kd.R_reads' (Kd.S_R HO7.out)).2.2 (Kd.R_reads' (Kd.S_R HO7.out)).2.1 AQ8.out).mono ?_); rintro e W6 ⟨v13, rfl, ho13, hb⟩; refine ⟨_, rfl, ?_⟩; obtain ⟨B13, d13, e_⟩ := Kd.S_slice ho13; subst e_; obtain ⟨lo13, hi13, nn, ht_, hO13⟩ := laws_FnExactWithDanger.newS ho13 HT.out (below_size HB.out) hb.size; replace HO7 := Aside0.mk (Kd.S_below HO7.out hb); replace BK1 := Aside0.mk (blk_below (g := gb1) (o := .cells #[.int .i64 a0_0, .slice A0_1 l0_1.length c0_1, .int .i64 a0_2] 24 (0, 0)) BK1.out hb); replace HB := Aside0.mk (below_step HB.out hb); replace HT := Aside0.mk (Nat.le_trans HT.out hb.size); have HO13 := Aside0.mk hO13; replace HT := Aside0.mk ht_; replace HN := Aside0.mk (And.intro nn HN.out); clear ho13 hO13 nn ht_; clear hb; clear HO7) | ((with_reducible refine gate_dst (N := 8) rfl ?_); refine box_event ?hg (N := 8) ?hd (cs := #[.int .i64 0, .slice none 0 0, .int .i64 0]) (t := 27) ?hr ?_; (case hd => rfl); (case hg => rfl); (case hr => first | (go_simp; done) | (go_simp; rfl)); intro gb2 hg W7 hbox hb; have nn : hi13 ≤ gb2 := Nat.le_trans HT.out (Nat.le_of_eq hg.symm); have GE2 := Aside0.mk (Nat.le_trans (below_size HB.out) (Nat.le_of_eq hg.symm)); replace HO13 := Aside0.mk (Kd.S_below HO13.out hb); replace BK1 := Aside0.mk (blk_below (g := gb1) (o := .cells #[.int .i64 a0_0, .slice A0_1 l0_1.length c0_1, .int .i64 a0_2] 24 (0, 0)) BK1.out hb); replace HB := Aside0.mk (below_step HB.out hb); replace HT := Aside0.mk (Nat.le_trans HT.out hb.size); have BK2 := Aside0.mk hbox; replace HT := Aside0.mk (Nat.succ_le_of_lt (blk_lt hbox)); replace HN := Aside0.mk (And.intro nn HN.out); clear hg hbox hb nn) | ((with_reducible refine gate_store (t := 27) (p := 8) rfl ?_); refine laws_FnExactWithDanger.store rfl rfl rfl gb2 27 #[.int .i64 0, .slice none 0 0, .int .i64 0] (.agg #[.int .i64 t9, .slice B13 t10.length d13, .int .i64 t11]) [.int .i64 t9, .slice B13 t10.length d13, .int .i64 t11] rfl rfl BK2.out rfl (by kernel_rfl) rfl (by intro q_ hq_; simp only [List.mem_cons, List.not_mem_nil, or_false] at hq_; rcases hq_ with rfl | rfl | rfl <;> rfl) ?_; intro W8 hbx hg; replace HO13 := Aside0.mk (laws_FnExactWithDanger.grownS HO13.out hg (by have hn_ := HN.out; omega)); replace BK1 := Aside0.mk (laws_FnExactWithDanger.grownB BK1.out hg (by have hn_ := HN.out; omega)); replace HB := Aside0.mk (Below.grown HB.out hg (below_size HB.out) (fun k_ hk_ => by injection hk_ with hk_; subst hk_; exact GE2.out)); replace HT := Aside0.mk (Nat.le_trans HT.out hg.size); replace BK2 := Aside0.mk hbx; clear hbx hg; have cz1_0 : W8.cell? ⟨gb1, 0, none⟩ = some (.int .i64 a0_0) := (blk_cell BK1.out 0).trans rfl; have cz1_1 : W8.cell? ⟨gb1, 1, none⟩ = some (.slice A0_1 l0_1.length c0_1) := (blk_cell BK1.out 1).trans rfl; have cz1_2 : W8.cell? ⟨gb1, 2, none⟩ = some (.int .i64 a0_2) := (blk_cell BK1.out 2).trans rfl) | ((with_reducible refine gate_dst (N := 32) rfl ?_); refine goesL_ (some 32) rfl rfl Try.func14 (by kernel_rfl) rfl #[.agg #[.int .i64 a0_0, .slice A0_1 l0_1.length c0_1, .int .i64 a0_2]] rfl (by (try simp only [List.map_toArray, List.map_cons, List.map_nil]); first | done | rfl) ?_; (with_reducible refine (laws_toKeep.calls k a0_0 _ _ l0_1 a0_2 t15 t16 t17 _ (Kd.C_below HR0_1.out HB.out) HC0_1.out AQ14.out).mono ?_); rintro e W9 ⟨v18, rfl, ho18, hb⟩; refine ⟨_, rfl, ?_⟩; obtain ⟨B18, d18, e_⟩ := Kd.S_slice ho18; subst e_; obtain ⟨lo18, hi18, nn, ht_, hO18⟩ := laws_FnExactWithDanger.newS ho18 HT.out (below_size HB.out) hb.size; replace HO13 := Aside0.mk (Kd.S_below HO13.out hb); replace BK1 := Aside0.mk (blk_below (g := gb1) (o := .cells #[.int .i64 a0_0, .slice A0_1 l0_1.length c0_1, .int .i64 a0_2] 24 (0, 0)) BK1.out hb); replace BK2 := Aside0.mk (blk_below (g := gb2) (o := .cells #[.int .i64 t9, .slice B13 t10.length d13, .int .i64 t11] 27 (0, 0)) BK2.out hb); replace HB := Aside0.mk (below_step HB.out hb); replace HT := Aside0.mk (Nat.le_trans HT.out hb.size); have HO18 := Aside0.mk hO18; replace HT := Aside0.mk ht_; replace HN := Aside0.mk (And.intro nn HN.out); clear ho18 hO18 nn ht_; clear hb; (try clear cz1_0 cz1_1 cz1_2)) | ((with_reducible refine gate_dst (N := 10) rfl ?_); refine box_event ?hg (N := 10) ?hd (cs := #[.int .i64 0, .slice none 0 0, .int .i64 0]) (t := 27) ?hr ?_; (case hd => rfl); (case hg => rfl); (case hr => first | (go_simp; done) | (go_simp; rfl)); intro gb3 hg W10 hbox hb; have nn : hi18 ≤ gb3 := Nat.le_trans HT.out (Nat.le_of_eq hg.symm); have GE3 := Aside0.mk (Nat.le_trans (below_size HB.out) (Nat.le_of_eq hg.symm)); replace HO13 := Aside0.mk (Kd.S_below HO13.out hb); replace HO18 := Aside0.mk (Kd.S_below HO18.out hb); replace BK1 := Aside0.mk (blk_below (g := gb1) (o := .cells #[.int .i64 a0_0, .slice A0_1 l0_1.length c0_1, .int .i64 a0_2] 24 (0, 0)) BK1.out hb); replace BK2 := Aside0.mk (blk_below (g := gb2) (o := .cells #[.int .i64 t9, .slice B13 t10.length d13, .int .i64 t11] 27 (0, 0)) BK2.out hb); replace HB := Aside0.mk (below_step HB.out hb); replace HT := Aside0.mk (Nat.le_trans HT.out hb.size); have BK3 := Aside0.mk hbox; replace HT := Aside0.mk (Nat.succ_le_of_lt (blk_lt hbox)); replace HN := Aside0.mk (And.intro nn HN.out); clear hg hbox hb nn) | ((with_reducible refine gate_store (t := 27) (p := 10) rfl ?_); refine laws_FnExactWithDanger.store rfl rfl rfl gb3 27 #[.int .i64 0, .slice none 0 0, .int .i64 0] (.agg #[.int .i64 t15, .slice B18 t16.length d18, .int .i64 t17]) [.int .i64 t15, .slice B18 t16.length d18, .int .i64 t17] rfl rfl BK3.out rfl (by kernel_rfl) rfl (by intro q_ hq_; simp only [List.mem_cons, List.not_mem_nil, or_false] at hq_; rcases hq_ with rfl | rfl | rfl <;> rfl) ?_; intro W11 hbx hg; replace HO13 := Aside0.mk (laws_FnExactWithDanger.grownS HO13.out hg (by have hn_ := HN.out; omega)); replace HO18 := Aside0.mk (laws_FnExactWithDanger.grownS HO18.out hg (by have hn_ := HN.out; omega)); replace BK1 := Aside0.mk (laws_FnExactWithDanger.grownB BK1.out hg (by have hn_ := HN.out; omega)); replace BK2 := Aside0.mk (laws_FnExactWithDanger.grownB BK2.out hg (by have hn_ := HN.out; omega)); replace HB := Aside0.mk (Below.grown HB.out hg (below_size HB.out) (fun k_ hk_ => by injection hk_ with hk_; subst hk_; exact GE3.out)); replace HT := Aside0.mk (Nat.le_trans HT.out hg.size); replace BK3 := Aside0.mk hbx; clear hbx hg; have cz3_0 : W11.cell? ⟨gb3, 0, none⟩ = some (.int .i64 t15) := (blk_cell BK3.out 0).trans rfl; have cz3_1 : W11.cell? ⟨gb3, 1, none⟩ = some (.slice B18 t16.length d18) := (blk_cell BK3.out 1).trans rfl; have cz3_2 : W11.cell? ⟨gb3, 2, none⟩ = some (.int .i64 t17) := (blk_cell BK3.out 2).trans rfl) | ((with_reducible refine gate_dst (N := 37) rfl ?_); refine goesL_ (some 37) rfl rfl Try.func46 (by kernel_rfl) rfl #[.agg #[.int .i64 t15, .slice B18 t16.length d18, .int .i64 t17], .int .i64 a1, .int .i64 a2] rfl (by (try simp only [List.map_toArray, List.map_cons, List.map_nil]); first | done | rfl) ?_; (with_reducible refine (impl_WithDanger.calls k t15 _ _ t16 t17 a1 a2 t20 t21 t22 t23 _ (Kd.R_reads' (Kd.S_R HO18.out)).2.2 (Kd.R_reads' (Kd.S_R HO18.out)).2.1 AQ19.out).mono ?_); rintro e W12 ⟨v24, rfl, ho24, hb⟩; refine ⟨_, rfl, ?_⟩; obtain ⟨B24, d24, e_⟩ := Kd.S_slice ho24; subst e_; obtain ⟨lo24, hi24, nn, ht_, hO24⟩ := laws_FnExactWithDanger.newS ho24 HT.out (below_size HB.out) hb.size; replace HO13 := Aside0.mk (Kd.S_below HO13.out hb); replace HO18 := Aside0.mk (Kd.S_below HO18.out hb); replace BK1 := Aside0.mk (blk_below (g := gb1) (o := .cells #[.int .i64 a0_0, .slice A0_1 l0_1.length c0_1, .int .i64 a0_2] 24 (0, 0)) BK1.out hb); replace BK2 := Aside0.mk (blk_below (g := gb2) (o := .cells #[.int .i64 t9, .slice B13 t10.length d13, .int .i64 t11] 27 (0, 0)) BK2.out hb); replace BK3 := Aside0.mk (blk_below (g := gb3) (o := .cells #[.int .i64 t15, .slice B18 t16.length d18, .int .i64 t17] 27 (0, 0)) BK3.out hb); replace HB := Aside0.mk (below_step HB.out hb); replace HT := Aside0.mk (Nat.le_trans HT.out hb.size); have HO24 := Aside0.mk hO24; replace HT := Aside0.mk ht_; replace HN := Aside0.mk (And.intro nn HN.out); clear ho24 hO24 nn ht_; clear hb; (try clear cz3_0 cz3_1 cz3_2)) | ((with_reducible refine gate_dst (N := 11) rfl ?_); refine box_event ?hg (N := 11) ?hd (cs := #[.int .i64 0, .slice none 0 0, .int .i64 0]) (t := 27) ?hr ?_; (case hd => rfl); (case hg => rfl); (case hr => first | (go_simp; done) | (go_simp; rfl)); intro gb4 hg W13 hbox hb; have nn : hi24 ≤ gb4 := Nat.le_trans HT.out (Nat.le_of_eq hg.symm); have GE4 := Aside0.mk (Nat.le_trans (below_size HB.out) (Nat.le_of_eq hg.symm)); replace HO13 := Aside0.mk (Kd.S_below HO13.out hb); replace HO18 := Aside0.mk (Kd.S_below HO18.out hb); replace HO24 := Aside0.mk (Kd.S_below HO24.out hb); replace BK1 := Aside0.mk (blk_below (g := gb1) (o := .cells #[.int .i64 a0_0, .slice A0_1 l0_1.length c0_1, .int .i64 a0_2] 24 (0, 0)) BK1.out hb); replace BK2 := Aside0.mk (blk_below (g := gb2) (o := .cells #[.int .i64 t9, .slice B13 t10.length d13, .int .i64 t11] 27 (0, 0)) BK2.out hb); replace BK3 := Aside0.mk (blk_below (g := gb3) (o := .cells #[.int .i64 t15, .slice B18 t16.length d18, .int .i64 t17] 27 (0, 0)) BK3.out hb); replace HB := Aside0.mk (below_step HB.out hb); replace HT := Aside0.mk (Nat.le_trans HT.out hb.size); have BK4 := Aside0.mk hbox; replace HT := Aside0.mk (Nat.succ_le_of_lt (blk_lt hbox)); replace HN := Aside0.mk (And.intro nn HN.out); clear hg hbox hb nn) | ((with_reducible refine gate_store (t := 27) (p := 11) rfl ?_); refine laws_FnExactWithDanger.store rfl rfl rfl gb4 27 #[.int .i64 0, .slice none 0 0, .int .i64 0] (.agg #[.int .i64 t20, .slice B24 t21.length d24, .int .i64 t22]) [.int .i64 t20, .slice B24 t21.length d24, .int .i64 t22] rfl rfl BK4.out rfl (by kernel_rfl) rfl (by intro q_ hq_; simp only [List.mem_cons, List.not_mem_nil, or_false] at hq_; rcases hq_ with rfl | rfl | rfl <;> rfl) ?_; intro W14 hbx hg; replace HO13 := Aside0.mk (laws_FnExactWithDanger.grownS HO13.out hg (by have hn_ := HN.out; omega)); replace HO18 := Aside0.mk (laws_FnExactWithDanger.grownS HO18.out hg (by have hn_ := HN.out; omega)); replace HO24 := Aside0.mk (laws_FnExactWithDanger.grownS HO24.out hg (by have hn_ := HN.out; omega)); replace BK1 := Aside0.mk (laws_FnExactWithDanger.grownB BK1.out hg (by have hn_ := HN.out; omega)); replace BK2 := Aside0.mk (laws_FnExactWithDanger.grownB BK2.out hg (by have hn_ := HN.out; omega)); replace BK3 := Aside0.mk (laws_FnExactWithDanger.grownB BK3.out hg (by have hn_ := HN.out; omega)); replace HB := Aside0.mk (Below.grown HB.out hg (below_size HB.out) (fun k_ hk_ => by injection hk_ with hk_; subst hk_; exact GE4.out)); replace HT := Aside0.mk (Nat.le_trans HT.out hg.size); replace BK4 := Aside0.mk hbx; clear hbx hg; have cz4_0 : W14.cell? ⟨gb4, 0, none⟩ = some (.int .i64 t20) := (blk_cell BK4.out 0).trans rfl; have cz4_1 : W14.cell? ⟨gb4, 1, none⟩ = some (.slice B24 t21.length d24) := (blk_cell BK4.out 1).trans rfl; have cz4_2 : W14.cell? ⟨gb4, 2, none⟩ = some (.int .i64 t22) := (blk_cell BK4.out 2).trans rfl; have cz2_0 : W14.cell? ⟨gb2, 0, none⟩ = some (.int .i64 t9) := (blk_cell BK2.out 0).trans rfl; have cz2_1 : W14.cell? ⟨gb2, 1, none⟩ = some (.slice B13 t10.length d13) := (blk_cell BK2.out 1).trans rfl; have cz2_2 : W14.cell? ⟨gb2, 2, none⟩ = some (.int .i64 t11) := (blk_cell BK2.out 2).trans rfl) | ((with_reducible refine gate_dst (N := 42) rfl ?_); refine goesL_ (some 42) rfl rfl Try.func16 (by kernel_rfl) rfl #[.agg #[.int .i64 t20, .slice B24 t21.length d24, .int .i64 t22], .agg #[.int .i64 t9, .slice B13 t10.length d13, .int .i64 t11]] rfl (by (try simp only [List.map_toArray, List.map_cons, List.map_nil]); first | done | rfl) ?_; (with_reducible refine (laws_eqKeep.calls k t20 _ _ t21 t22 t9 _ _ t10 t11 true _ (Kd.R_reads' (Kd.S_R HO24.out)).2.2 (Kd.R_reads' (Kd.S_R HO24.out)).2.1 (Kd.R_reads' (Kd.S_R HO13.out)).2.2 (Kd.R_reads' (Kd.S_R HO13.out)).2.1 AQ25.out).mono ?_); rintro e W15 ⟨rfl, hb⟩; refine ⟨_, rfl, ?_⟩; replace HO13 := Aside0.mk (Kd.S_below HO13.out hb); replace HO18 := Aside0.mk (Kd.S_below HO18.out hb); replace HO24 := Aside0.mk (Kd.S_below HO24.out hb); replace BK1 := Aside0.mk (blk_below (g := gb1) (o := .cells #[.int .i64 a0_0, .slice A0_1 l0_1.length c0_1, .int .i64 a0_2] 24 (0, 0)) BK1.out hb); replace BK2 := Aside0.mk (blk_below (g := gb2) (o := .cells #[.int .i64 t9, .slice B13 t10.length d13, .int .i64 t11] 27 (0, 0)) BK2.out hb); replace BK3 := Aside0.mk (blk_below (g := gb3) (o := .cells #[.int .i64 t15, .slice B18 t16.length d18, .int .i64 t17] 27 (0, 0)) BK3.out hb); replace BK4 := Aside0.mk (blk_below (g := gb4) (o := .cells #[.int .i64 t20, .slice B24 t21.length d24, .int .i64 t22] 27 (0, 0)) BK4.out hb); replace HB := Aside0.mk (below_step HB.out hb); replace HT := Aside0.mk (Nat.le_trans HT.out hb.size); clear hb; (try clear cz4_0 cz4_1 cz4_2 cz2_0 cz2_1 cz2_2)))
  have hb : Below W15.heap.size W15 W15.drew := below_drew (Below.refl _ _)
  replace HO13 := Aside0.mk (Kd.S_below HO13.out hb)
  replace HO18 := Aside0.mk (Kd.S_below HO18.out hb)
  replace HO24 := Aside0.mk (Kd.S_below HO24.out hb)
  replace BK1 := Aside0.mk (blk_below (g := gb1) (o := .cells #[.int .i64 a0_0, .slice A0_1 l0_1.length c0_1, .int .i64 a0_2] 24 (0, 0)) BK1.out hb)
  replace BK2 := Aside0.mk (blk_below (g := gb2) (o := .cells #[.int .i64 t9, .slice B13 t10.length d13, .int .i64 t11] 27 (0, 0)) BK2.out hb)
  replace BK3 := Aside0.mk (blk_below (g := gb3) (o := .cells #[.int .i64 t15, .slice B18 t16.length d18, .int .i64 t17] 27 (0, 0)) BK3.out hb)
  replace BK4 := Aside0.mk (blk_below (g := gb4) (o := .cells #[.int .i64 t20, .slice B24 t21.length d24, .int .i64 t22] 27 (0, 0)) BK4.out hb)
  replace HB := Aside0.mk (below_step HB.out hb)
  replace HT := Aside0.mk (Nat.le_trans HT.out hb.size)
  clear hb
  refine start_ (n := 5) (S := fun w' => w'.cell? ⟨gb3, 0, none⟩ = some (.int .i64 t15) ∧ w'.cell? ⟨gb3, 1, none⟩ = some (.slice B18 t16.length d18) ∧ w'.cell? ⟨gb3, 2, none⟩ = some (.int .i64 t17) ∧ w'.cell? ⟨gb1, 0, none⟩ = some (.int .i64 a0_0) ∧ w'.cell? ⟨gb1, 1, none⟩ = some (.slice A0_1 l0_1.length c0_1) ∧ w'.cell? ⟨gb1, 2, none⟩ = some (.int .i64 a0_2)) (ds := []) #[false, false, false, false, false] (by kernel_rfl) rfl rfl ⟨(blk_cell BK3.out 0).trans rfl, (blk_cell BK3.out 1).trans rfl, (blk_cell BK3.out 2).trans rfl, (blk_cell BK1.out 0).trans rfl, (blk_cell BK1.out 1).trans rfl, (blk_cell BK1.out 2).trans rfl⟩ (fun hHeld => ?_)
  generalize W15.drew = W16 at HO13 HO18 HO24 BK1 BK2 BK3 BK4 HB HT hHeld ⊢
  refine take_ (i := 0) (N := some 49) (v := ?_) (a' := ?_) #[true, false, false, false, false] rfl rfl (by kernel_rfl) (fun _ _ _ h => h) (Or.inl ⟨by rfl, ?_⟩) hHeld ?_ ?_
  rotate_left
  · rintro w' ⟨s0, s1, s2, s3, s4, s5⟩
    go_simp
    with_reducible rfl
  rotate_left
  · simp only [Act.put, List.setIfInBounds_toArray, List.set_cons_zero, List.set_cons_succ, i64_w, i32_w]
    rfl
  refine take_ (i := 1) (N := some 50) (v := ?_) (a' := ?_) #[true, true, false, false, false] rfl rfl (by kernel_rfl) (fun _ _ _ h => h) (Or.inl ⟨by rfl, ?_⟩) hHeld ?_ ?_
  rotate_left
  · rintro w' ⟨s0, s1, s2, s3, s4, s5⟩
    go_simp
    with_reducible rfl
  rotate_left
  · simp only [Act.put, List.setIfInBounds_toArray, List.set_cons_zero, List.set_cons_succ, i64_w, i32_w]
    rfl
  refine one_ (i := 2) (N := some 51) #[true, true, true, false, false] rfl rfl (by kernel_rfl) (by decide) (fun K hK => ?_)
  refine goes_ Try.func14 (by kernel_rfl) rfl #[.agg #[.int .i64 a0_0, .slice A0_1 l0_1.length c0_1, .int .i64 a0_2]] (by rfl) rfl rfl (by (try simp only [List.map_toArray, List.map_cons, List.map_nil]); first | done | rfl) ?_
  with_reducible refine (laws_toKeep.calls k a0_0 _ _ l0_1 a0_2 t28 t29 t30 _ (Kd.C_below HR0_1.out HB.out) HC0_1.out AQ27.out).mono ?_
  rintro e W17 ⟨v31, rfl, ho31, hb⟩
  refine ⟨_, rfl, ?_⟩
  obtain ⟨B31, d31, e_⟩ := Kd.S_slice ho31
  subst e_
  obtain ⟨lo31, hi31, nn, ht_, hO31⟩ := laws_FnExactWithDanger.newS ho31 HT.out (below_size HB.out) hb.size
  replace HO13 := Aside0.mk (Kd.S_below HO13.out hb)
  replace HO18 := Aside0.mk (Kd.S_below HO18.out hb)
  replace HO24 := Aside0.mk (Kd.S_below HO24.out hb)
  replace BK1 := Aside0.mk (blk_below (g := gb1) (o := .cells #[.int .i64 a0_0, .slice A0_1 l0_1.length c0_1, .int .i64 a0_2] 24 (0, 0)) BK1.out hb)
  replace BK2 := Aside0.mk (blk_below (g := gb2) (o := .cells #[.int .i64 t9, .slice B13 t10.length d13, .int .i64 t11] 27 (0, 0)) BK2.out hb)
  replace BK3 := Aside0.mk (blk_below (g := gb3) (o := .cells #[.int .i64 t15, .slice B18 t16.length d18, .int .i64 t17] 27 (0, 0)) BK3.out hb)
  replace BK4 := Aside0.mk (blk_below (g := gb4) (o := .cells #[.int .i64 t20, .slice B24 t21.length d24, .int .i64 t22] 27 (0, 0)) BK4.out hb)
  replace HB := Aside0.mk (below_step HB.out hb)
  replace HT := Aside0.mk (Nat.le_trans HT.out hb.size)
  have HO31 := Aside0.mk hO31
  replace HT := Aside0.mk ht_
  replace HN := Aside0.mk (And.intro nn HN.out)
  clear ho31 hO31 nn ht_
  clear hb
  refine hK.out _ _ ⟨(blk_cell BK3.out 0).trans rfl, (blk_cell BK3.out 1).trans rfl, (blk_cell BK3.out 2).trans rfl, (blk_cell BK1.out 0).trans rfl, (blk_cell BK1.out 1).trans rfl, (blk_cell BK1.out 2).trans rfl⟩ (fun hHeld => ?_)
  clear hK K
  refine norm_ (a' := ?_) ?_ ?_
  rotate_left
  · show Act.put _ (some 51) _ = _
    simp only [Act.put, List.setIfInBounds_toArray, List.set_cons_zero, List.set_cons_succ, i64_w, i32_w]
    rfl
  refine one_ (i := 3) (N := some 52) #[true, true, true, true, false] rfl rfl (by kernel_rfl) (by decide) (fun K hK => ?_)
  refine goes_ Try.func16 (by kernel_rfl) rfl #[.agg #[.int .i64 t15, .slice B18 t16.length d18, .int .i64 t17], .agg #[.int .i64 t28, .slice B31 t29.length d31, .int .i64 t30]] (by rfl) rfl rfl (by (try simp only [List.map_toArray, List.map_cons, List.map_nil]); first | done | rfl) ?_
  with_reducible refine (laws_eqKeep.calls k t15 _ _ t16 t17 t28 _ _ t29 t30 true _ (Kd.R_reads' (Kd.S_R HO18.out)).2.2 (Kd.R_reads' (Kd.S_R HO18.out)).2.1 (Kd.R_reads' (Kd.S_R HO31.out)).2.2 (Kd.R_reads' (Kd.S_R HO31.out)).2.1 AQ32.out).mono ?_
  rintro e W18 ⟨rfl, hb⟩
  refine ⟨_, rfl, ?_⟩
  replace HO13 := Aside0.mk (Kd.S_below HO13.out hb)
  replace HO18 := Aside0.mk (Kd.S_below HO18.out hb)
  replace HO24 := Aside0.mk (Kd.S_below HO24.out hb)
  replace HO31 := Aside0.mk (Kd.S_below HO31.out hb)
  replace BK1 := Aside0.mk (blk_below (g := gb1) (o := .cells #[.int .i64 a0_0, .slice A0_1 l0_1.length c0_1, .int .i64 a0_2] 24 (0, 0)) BK1.out hb)
  replace BK2 := Aside0.mk (blk_below (g := gb2) (o := .cells #[.int .i64 t9, .slice B13 t10.length d13, .int .i64 t11] 27 (0, 0)) BK2.out hb)
  replace BK3 := Aside0.mk (blk_below (g := gb3) (o := .cells #[.int .i64 t15, .slice B18 t16.length d18, .int .i64 t17] 27 (0, 0)) BK3.out hb)
  replace BK4 := Aside0.mk (blk_below (g := gb4) (o := .cells #[.int .i64 t20, .slice B24 t21.length d24, .int .i64 t22] 27 (0, 0)) BK4.out hb)
  replace HB := Aside0.mk (below_step HB.out hb)
  replace HT := Aside0.mk (Nat.le_trans HT.out hb.size)
  clear hb
  clear HO31
  refine hK.out _ _ ⟨(blk_cell BK3.out 0).trans rfl, (blk_cell BK3.out 1).trans rfl, (blk_cell BK3.out 2).trans rfl, (blk_cell BK1.out 0).trans rfl, (blk_cell BK1.out 1).trans rfl, (blk_cell BK1.out 2).trans rfl⟩ (fun hHeld => ?_)
  clear hK K
  refine norm_ (a' := ?_) ?_ ?_
  rotate_left
  · show Act.put _ (some 52) _ = _
    simp only [Act.put, List.setIfInBounds_toArray, List.set_cons_zero, List.set_cons_succ, i64_w, i32_w]
    rfl
  refine pure_ (i := 4) (N := some 53) (v := ?_) (a' := ?_) #[true, true, true, true, true] rfl rfl (by kernel_rfl) (fun _ _ _ h => h) (Or.inl ⟨by rfl, ?_⟩) ?_ ?_
  rotate_left
  · intro w'
    go_simp
    with_reducible rfl
  rotate_left
  · simp only [Act.put, List.setIfInBounds_toArray, List.set_cons_zero, List.set_cons_succ, i64_w, i32_w]
    rfl
  refine done_ (by kernel_rfl) ?_
  have cz3_0 : W18.cell? ⟨gb3, 0, none⟩ = some (.int .i64 t15) := (blk_cell BK3.out 0).trans rfl
  have cz3_1 : W18.cell? ⟨gb3, 1, none⟩ = some (.slice B18 t16.length d18) := (blk_cell BK3.out 1).trans rfl
  have cz3_2 : W18.cell? ⟨gb3, 2, none⟩ = some (.int .i64 t17) := (blk_cell BK3.out 2).trans rfl
  try go_wp2_with (first | ((with_reducible refine gate_dst (N := 56) rfl ?_); refine goesL_ (some 56) rfl rfl Try.func26 (by kernel_rfl) rfl #[.agg #[.int .i64 t15, .slice B18 t16.length d18, .int .i64 t17], .int .i64 1] rfl (by (try simp only [List.map_toArray, List.map_cons, List.map_nil]); first | done | rfl) ?_; (with_reducible refine (laws_markKeep.calls k (fun k_ => lo18 ≤ k_ ∧ k_ < hi18) t15 (.slice B18 t16.length d18) t16 t17 1 t35 t36 w _ HB.out HO18.out AQ34.out).mono ?_); rintro e W19 ⟨rfl, hy0, hb, hkp⟩; refine ⟨_, rfl, ?_⟩; replace HO13 := Aside0.mk (laws_FnExactWithDanger.keptS HO13.out hkp (by have hn_ := HN.out; omega)); replace HO24 := Aside0.mk (laws_FnExactWithDanger.keptS HO24.out hkp (by have hn_ := HN.out; omega)); replace BK1 := Aside0.mk (laws_FnExactWithDanger.keptB BK1.out hkp (by have hn_ := HN.out; omega)); replace BK2 := Aside0.mk (laws_FnExactWithDanger.keptB BK2.out hkp (by have hn_ := HN.out; omega)); replace BK3 := Aside0.mk (laws_FnExactWithDanger.keptB BK3.out hkp (by have hn_ := HN.out; omega)); replace BK4 := Aside0.mk (laws_FnExactWithDanger.keptB BK4.out hkp (by have hn_ := HN.out; omega)); replace HO18 := Aside0.mk (hy0); replace HB := Aside0.mk hb; replace HT := Aside0.mk (Nat.le_trans HT.out hkp.1); clear hy0 hb hkp; have hl_ := (Kd.R_reads' (Kd.S_R HO18.out)).1; rw [hl_] at HO18 BK3; (try simp only [hl_]); clear hl_; clear HO18; (try clear cz3_0 cz3_1 cz3_2); have cz4_0 : W19.cell? ⟨gb4, 0, none⟩ = some (.int .i64 t20) := (blk_cell BK4.out 0).trans rfl; have cz4_1 : W19.cell? ⟨gb4, 1, none⟩ = some (.slice B24 t21.length d24) := (blk_cell BK4.out 1).trans rfl; have cz4_2 : W19.cell? ⟨gb4, 2, none⟩ = some (.int .i64 t22) := (blk_cell BK4.out 2).trans rfl; have cz2_0 : W19.cell? ⟨gb2, 0, none⟩ = some (.int .i64 t9) := (blk_cell BK2.out 0).trans rfl; have cz2_1 : W19.cell? ⟨gb2, 1, none⟩ = some (.slice B13 t10.length d13) := (blk_cell BK2.out 1).trans rfl; have cz2_2 : W19.cell? ⟨gb2, 2, none⟩ = some (.int .i64 t11) := (blk_cell BK2.out 2).trans rfl) | ((with_reducible refine gate_dst (N := 62) rfl ?_); (refine gate_guard (by rfl) ?_; dsimp only); refine goesL_ (some 62) rfl rfl Try.func16 (by kernel_rfl) rfl #[.agg #[.int .i64 t20, .slice B24 t21.length d24, .int .i64 t22], .agg #[.int .i64 t9, .slice B13 t10.length d13, .int .i64 t11]] rfl (by (try simp only [List.map_toArray, List.map_cons, List.map_nil]); first | done | rfl) ?_; (with_reducible refine (laws_eqKeep.calls k t20 _ _ t21 t22 t9 _ _ t10 t11 true _ (Kd.R_reads' (Kd.S_R HO24.out)).2.2 (Kd.R_reads' (Kd.S_R HO24.out)).2.1 (Kd.R_reads' (Kd.S_R HO13.out)).2.2 (Kd.R_reads' (Kd.S_R HO13.out)).2.1 AQ37.out).mono ?_); rintro e W20 ⟨rfl, hb⟩; refine ⟨_, rfl, ?_⟩; replace HO13 := Aside0.mk (Kd.S_below HO13.out hb); replace HO24 := Aside0.mk (Kd.S_below HO24.out hb); replace BK1 := Aside0.mk (blk_below (g := gb1) (o := .cells #[.int .i64 a0_0, .slice A0_1 l0_1.length c0_1, .int .i64 a0_2] 24 (0, 0)) BK1.out hb); replace BK2 := Aside0.mk (blk_below (g := gb2) (o := .cells #[.int .i64 t9, .slice B13 t10.length d13, .int .i64 t11] 27 (0, 0)) BK2.out hb); replace BK3 := Aside0.mk (blk_below (g := gb3) (o := .cells #[.int .i64 t15, .slice B18 t36.length d18, .int .i64 t17] 27 (0, 0)) BK3.out hb); replace BK4 := Aside0.mk (blk_below (g := gb4) (o := .cells #[.int .i64 t20, .slice B24 t21.length d24, .int .i64 t22] 27 (0, 0)) BK4.out hb); replace HB := Aside0.mk (below_step HB.out hb); replace HT := Aside0.mk (Nat.le_trans HT.out hb.size); clear hb; (try clear cz4_0 cz4_1 cz4_2 cz2_0 cz2_1 cz2_2); have cz4_0 : W20.cell? ⟨gb4, 0, none⟩ = some (.int .i64 t20) := (blk_cell BK4.out 0).trans rfl; have cz4_1 : W20.cell? ⟨gb4, 1, none⟩ = some (.slice B24 t21.length d24) := (blk_cell BK4.out 1).trans rfl; have cz4_2 : W20.cell? ⟨gb4, 2, none⟩ = some (.int .i64 t22) := (blk_cell BK4.out 2).trans rfl) | ((with_reducible refine gate_dst (N := 72) rfl ?_); refine goesL_ (some 72) rfl rfl Try.func26 (by kernel_rfl) rfl #[.agg #[.int .i64 t20, .slice B24 t21.length d24, .int .i64 t22], .int .i64 1] rfl (by (try simp only [List.map_toArray, List.map_cons, List.map_nil]); first | done | rfl) ?_; (with_reducible refine (laws_markKeep.calls k (fun k_ => lo24 ≤ k_ ∧ k_ < hi24) t20 (.slice B24 t21.length d24) t21 t22 1 t40 t41 w _ HB.out HO24.out AQ39.out).mono ?_); rintro e W21 ⟨rfl, hy0, hb, hkp⟩; refine ⟨_, rfl, ?_⟩; replace HO13 := Aside0.mk (laws_FnExactWithDanger.keptS HO13.out hkp (by have hn_ := HN.out; omega)); replace BK1 := Aside0.mk (laws_FnExactWithDanger.keptB BK1.out hkp (by have hn_ := HN.out; omega)); replace BK2 := Aside0.mk (laws_FnExactWithDanger.keptB BK2.out hkp (by have hn_ := HN.out; omega)); replace BK3 := Aside0.mk (laws_FnExactWithDanger.keptB BK3.out hkp (by have hn_ := HN.out; omega)); replace BK4 := Aside0.mk (laws_FnExactWithDanger.keptB BK4.out hkp (by have hn_ := HN.out; omega)); replace HO24 := Aside0.mk (hy0); replace HB := Aside0.mk hb; replace HT := Aside0.mk (Nat.le_trans HT.out hkp.1); clear hy0 hb hkp; have hl_ := (Kd.R_reads' (Kd.S_R HO24.out)).1; rw [hl_] at HO24 BK4; (try simp only [hl_]); clear hl_; (try clear cz4_0 cz4_1 cz4_2); have cz4_0 : W21.cell? ⟨gb4, 0, none⟩ = some (.int .i64 t20) := (blk_cell BK4.out 0).trans rfl; have cz4_1 : W21.cell? ⟨gb4, 1, none⟩ = some (.slice B24 t41.length d24) := (blk_cell BK4.out 1).trans rfl; have cz4_2 : W21.cell? ⟨gb4, 2, none⟩ = some (.int .i64 t22) := (blk_cell BK4.out 2).trans rfl) | ((with_reducible refine gate_dst (N := 75) rfl ?_); refine goesL_ (some 75) rfl rfl Try.func47 (by kernel_rfl) rfl #[.agg #[.int .i64 t20, .slice B24 t41.length d24, .int .i64 t22], .int .i64 1] rfl (by (try simp only [List.map_toArray, List.map_cons, List.map_nil]); first | done | rfl) ?_; (with_reducible refine (laws_heldKeep.calls k t20 _ _ t41 t22 1 t43 _ (Kd.R_reads' (Kd.S_R HO24.out)).2.2 (Kd.R_reads' (Kd.S_R HO24.out)).2.1 AQ42.out).mono ?_); rintro e W22 ⟨rfl, hb⟩; refine ⟨_, rfl, ?_⟩; replace HO13 := Aside0.mk (Kd.S_below HO13.out hb); replace HO24 := Aside0.mk (Kd.S_below HO24.out hb); replace BK1 := Aside0.mk (blk_below (g := gb1) (o := .cells #[.int .i64 a0_0, .slice A0_1 l0_1.length c0_1, .int .i64 a0_2] 24 (0, 0)) BK1.out hb); replace BK2 := Aside0.mk (blk_below (g := gb2) (o := .cells #[.int .i64 t9, .slice B13 t10.length d13, .int .i64 t11] 27 (0, 0)) BK2.out hb); replace BK3 := Aside0.mk (blk_below (g := gb3) (o := .cells #[.int .i64 t15, .slice B18 t36.length d18, .int .i64 t17] 27 (0, 0)) BK3.out hb); replace BK4 := Aside0.mk (blk_below (g := gb4) (o := .cells #[.int .i64 t20, .slice B24 t41.length d24, .int .i64 t22] 27 (0, 0)) BK4.out hb); replace HB := Aside0.mk (below_step HB.out hb); replace HT := Aside0.mk (Nat.le_trans HT.out hb.size); clear hb; (try clear cz4_0 cz4_1 cz4_2); have cz1_0 : W22.cell? ⟨gb1, 0, none⟩ = some (.int .i64 a0_0) := (blk_cell BK1.out 0).trans rfl; have cz1_1 : W22.cell? ⟨gb1, 1, none⟩ = some (.slice A0_1 l0_1.length c0_1) := (blk_cell BK1.out 1).trans rfl; have cz1_2 : W22.cell? ⟨gb1, 2, none⟩ = some (.int .i64 a0_2) := (blk_cell BK1.out 2).trans rfl) | ((with_reducible refine gate_dst (N := 83) rfl ?_); refine goesL_ (some 83) rfl rfl Try.func14 (by kernel_rfl) rfl #[.agg #[.int .i64 a0_0, .slice A0_1 l0_1.length c0_1, .int .i64 a0_2]] rfl (by (try simp only [List.map_toArray, List.map_cons, List.map_nil]); first | done | rfl) ?_; (with_reducible refine (laws_toKeep.calls k a0_0 _ _ l0_1 a0_2 t45 t46 t47 _ (Kd.C_below HR0_1.out HB.out) HC0_1.out AQ44.out).mono ?_); rintro e W23 ⟨v48, rfl, ho48, hb⟩; refine ⟨_, rfl, ?_⟩; obtain ⟨B48, d48, e_⟩ := Kd.S_slice ho48; subst e_; obtain ⟨lo48, hi48, nn, ht_, hO48⟩ := laws_FnExactWithDanger.newS ho48 HT.out (below_size HB.out) hb.size; replace HO13 := Aside0.mk (Kd.S_below HO13.out hb); replace HO24 := Aside0.mk (Kd.S_below HO24.out hb); replace BK1 := Aside0.mk (blk_below (g := gb1) (o := .cells #[.int .i64 a0_0, .slice A0_1 l0_1.length c0_1, .int .i64 a0_2] 24 (0, 0)) BK1.out hb); replace BK2 := Aside0.mk (blk_below (g := gb2) (o := .cells #[.int .i64 t9, .slice B13 t10.length d13, .int .i64 t11] 27 (0, 0)) BK2.out hb); replace BK3 := Aside0.mk (blk_below (g := gb3) (o := .cells #[.int .i64 t15, .slice B18 t36.length d18, .int .i64 t17] 27 (0, 0)) BK3.out hb); replace BK4 := Aside0.mk (blk_below (g := gb4) (o := .cells #[.int .i64 t20, .slice B24 t41.length d24, .int .i64 t22] 27 (0, 0)) BK4.out hb); replace HB := Aside0.mk (below_step HB.out hb); replace HT := Aside0.mk (Nat.le_trans HT.out hb.size); have HO48 := Aside0.mk hO48; replace HT := Aside0.mk ht_; replace HN := Aside0.mk (And.intro nn HN.out); clear ho48 hO48 nn ht_; clear hb; (try clear cz1_0 cz1_1 cz1_2)) | ((with_reducible refine gate_dst (N := 86) rfl ?_); refine goesL_ (some 86) rfl rfl Try.func46 (by kernel_rfl) rfl #[.agg #[.int .i64 t45, .slice B48 t46.length d48, .int .i64 t47], .int .i64 a1, .int .i64 a2] rfl (by (try simp only [List.map_toArray, List.map_cons, List.map_nil]); first | done | rfl) ?_; (with_reducible refine (impl_WithDanger.calls k t45 _ _ t46 t47 a1 a2 t50 t51 t52 t53 _ (Kd.R_reads' (Kd.S_R HO48.out)).2.2 (Kd.R_reads' (Kd.S_R HO48.out)).2.1 AQ49.out).mono ?_); rintro e W24 ⟨v54, rfl, ho54, hb⟩; refine ⟨_, rfl, ?_⟩; obtain ⟨B54, d54, e_⟩ := Kd.S_slice ho54; subst e_; obtain ⟨lo54, hi54, nn, ht_, hO54⟩ := laws_FnExactWithDanger.newS ho54 HT.out (below_size HB.out) hb.size; replace HO13 := Aside0.mk (Kd.S_below HO13.out hb); replace HO24 := Aside0.mk (Kd.S_below HO24.out hb); replace HO48 := Aside0.mk (Kd.S_below HO48.out hb); replace BK1 := Aside0.mk (blk_below (g := gb1) (o := .cells #[.int .i64 a0_0, .slice A0_1 l0_1.length c0_1, .int .i64 a0_2] 24 (0, 0)) BK1.out hb); replace BK2 := Aside0.mk (blk_below (g := gb2) (o := .cells #[.int .i64 t9, .slice B13 t10.length d13, .int .i64 t11] 27 (0, 0)) BK2.out hb); replace BK3 := Aside0.mk (blk_below (g := gb3) (o := .cells #[.int .i64 t15, .slice B18 t36.length d18, .int .i64 t17] 27 (0, 0)) BK3.out hb); replace BK4 := Aside0.mk (blk_below (g := gb4) (o := .cells #[.int .i64 t20, .slice B24 t41.length d24, .int .i64 t22] 27 (0, 0)) BK4.out hb); replace HB := Aside0.mk (below_step HB.out hb); replace HT := Aside0.mk (Nat.le_trans HT.out hb.size); have HO54 := Aside0.mk hO54; replace HT := Aside0.mk ht_; replace HN := Aside0.mk (And.intro nn HN.out); clear ho54 hO54 nn ht_; clear hb; clear HO48) | ((with_reducible refine gate_dst (N := 16) rfl ?_); refine box_event ?hg (N := 16) ?hd (cs := #[.int .i64 0, .slice none 0 0, .int .i64 0]) (t := 27) ?hr ?_; (case hd => rfl); (case hg => rfl); (case hr => first | (go_simp; done) | (go_simp; rfl)); intro gb5 hg W25 hbox hb; have nn : hi54 ≤ gb5 := Nat.le_trans HT.out (Nat.le_of_eq hg.symm); have GE5 := Aside0.mk (Nat.le_trans (below_size HB.out) (Nat.le_of_eq hg.symm)); replace HO13 := Aside0.mk (Kd.S_below HO13.out hb); replace HO24 := Aside0.mk (Kd.S_below HO24.out hb); replace HO54 := Aside0.mk (Kd.S_below HO54.out hb); replace BK1 := Aside0.mk (blk_below (g := gb1) (o := .cells #[.int .i64 a0_0, .slice A0_1 l0_1.length c0_1, .int .i64 a0_2] 24 (0, 0)) BK1.out hb); replace BK2 := Aside0.mk (blk_below (g := gb2) (o := .cells #[.int .i64 t9, .slice B13 t10.length d13, .int .i64 t11] 27 (0, 0)) BK2.out hb); replace BK3 := Aside0.mk (blk_below (g := gb3) (o := .cells #[.int .i64 t15, .slice B18 t36.length d18, .int .i64 t17] 27 (0, 0)) BK3.out hb); replace BK4 := Aside0.mk (blk_below (g := gb4) (o := .cells #[.int .i64 t20, .slice B24 t41.length d24, .int .i64 t22] 27 (0, 0)) BK4.out hb); replace HB := Aside0.mk (below_step HB.out hb); replace HT := Aside0.mk (Nat.le_trans HT.out hb.size); have BK5 := Aside0.mk hbox; replace HT := Aside0.mk (Nat.succ_le_of_lt (blk_lt hbox)); replace HN := Aside0.mk (And.intro nn HN.out); clear hg hbox hb nn) | ((with_reducible refine gate_store (t := 27) (p := 16) rfl ?_); refine laws_FnExactWithDanger.store rfl rfl rfl gb5 27 #[.int .i64 0, .slice none 0 0, .int .i64 0] (.agg #[.int .i64 t50, .slice B54 t51.length d54, .int .i64 t52]) [.int .i64 t50, .slice B54 t51.length d54, .int .i64 t52] rfl rfl BK5.out rfl (by kernel_rfl) rfl (by intro q_ hq_; simp only [List.mem_cons, List.not_mem_nil, or_false] at hq_; rcases hq_ with rfl | rfl | rfl <;> rfl) ?_; intro W26 hbx hg; replace HO13 := Aside0.mk (laws_FnExactWithDanger.grownS HO13.out hg (by have hn_ := HN.out; omega)); replace HO24 := Aside0.mk (laws_FnExactWithDanger.grownS HO24.out hg (by have hn_ := HN.out; omega)); replace HO54 := Aside0.mk (laws_FnExactWithDanger.grownS HO54.out hg (by have hn_ := HN.out; omega)); replace BK1 := Aside0.mk (laws_FnExactWithDanger.grownB BK1.out hg (by have hn_ := HN.out; omega)); replace BK2 := Aside0.mk (laws_FnExactWithDanger.grownB BK2.out hg (by have hn_ := HN.out; omega)); replace BK3 := Aside0.mk (laws_FnExactWithDanger.grownB BK3.out hg (by have hn_ := HN.out; omega)); replace BK4 := Aside0.mk (laws_FnExactWithDanger.grownB BK4.out hg (by have hn_ := HN.out; omega)); replace HB := Aside0.mk (Below.grown HB.out hg (below_size HB.out) (fun k_ hk_ => by injection hk_ with hk_; subst hk_; exact GE5.out)); replace HT := Aside0.mk (Nat.le_trans HT.out hg.size); replace BK5 := Aside0.mk hbx; clear hbx hg; have cz5_0 : W26.cell? ⟨gb5, 0, none⟩ = some (.int .i64 t50) := (blk_cell BK5.out 0).trans rfl; have cz5_1 : W26.cell? ⟨gb5, 1, none⟩ = some (.slice B54 t51.length d54) := (blk_cell BK5.out 1).trans rfl; have cz5_2 : W26.cell? ⟨gb5, 2, none⟩ = some (.int .i64 t52) := (blk_cell BK5.out 2).trans rfl; have cz2_0 : W26.cell? ⟨gb2, 0, none⟩ = some (.int .i64 t9) := (blk_cell BK2.out 0).trans rfl; have cz2_1 : W26.cell? ⟨gb2, 1, none⟩ = some (.slice B13 t10.length d13) := (blk_cell BK2.out 1).trans rfl; have cz2_2 : W26.cell? ⟨gb2, 2, none⟩ = some (.int .i64 t11) := (blk_cell BK2.out 2).trans rfl) | ((with_reducible refine gate_dst (N := 91) rfl ?_); refine goesL_ (some 91) rfl rfl Try.func16 (by kernel_rfl) rfl #[.agg #[.int .i64 t50, .slice B54 t51.length d54, .int .i64 t52], .agg #[.int .i64 t9, .slice B13 t10.length d13, .int .i64 t11]] rfl (by (try simp only [List.map_toArray, List.map_cons, List.map_nil]); first | done | rfl) ?_; (with_reducible refine (laws_eqKeep.calls k t50 _ _ t51 t52 t9 _ _ t10 t11 true _ (Kd.R_reads' (Kd.S_R HO54.out)).2.2 (Kd.R_reads' (Kd.S_R HO54.out)).2.1 (Kd.R_reads' (Kd.S_R HO13.out)).2.2 (Kd.R_reads' (Kd.S_R HO13.out)).2.1 AQ55.out).mono ?_); rintro e W27 ⟨rfl, hb⟩; refine ⟨_, rfl, ?_⟩; replace HO13 := Aside0.mk (Kd.S_below HO13.out hb); replace HO24 := Aside0.mk (Kd.S_below HO24.out hb); replace HO54 := Aside0.mk (Kd.S_below HO54.out hb); replace BK1 := Aside0.mk (blk_below (g := gb1) (o := .cells #[.int .i64 a0_0, .slice A0_1 l0_1.length c0_1, .int .i64 a0_2] 24 (0, 0)) BK1.out hb); replace BK2 := Aside0.mk (blk_below (g := gb2) (o := .cells #[.int .i64 t9, .slice B13 t10.length d13, .int .i64 t11] 27 (0, 0)) BK2.out hb); replace BK3 := Aside0.mk (blk_below (g := gb3) (o := .cells #[.int .i64 t15, .slice B18 t36.length d18, .int .i64 t17] 27 (0, 0)) BK3.out hb); replace BK4 := Aside0.mk (blk_below (g := gb4) (o := .cells #[.int .i64 t20, .slice B24 t41.length d24, .int .i64 t22] 27 (0, 0)) BK4.out hb); replace BK5 := Aside0.mk (blk_below (g := gb5) (o := .cells #[.int .i64 t50, .slice B54 t51.length d54, .int .i64 t52] 27 (0, 0)) BK5.out hb); replace HB := Aside0.mk (below_step HB.out hb); replace HT := Aside0.mk (Nat.le_trans HT.out hb.size); clear hb; clear HO13 HO54; (try clear cz5_0 cz5_1 cz5_2 cz2_0 cz2_1 cz2_2); have cz4_0 : W27.cell? ⟨gb4, 0, none⟩ = some (.int .i64 t20) := (blk_cell BK4.out 0).trans rfl; have cz4_1 : W27.cell? ⟨gb4, 1, none⟩ = some (.slice B24 t41.length d24) := (blk_cell BK4.out 1).trans rfl; have cz4_2 : W27.cell? ⟨gb4, 2, none⟩ = some (.int .i64 t22) := (blk_cell BK4.out 2).trans rfl) | ((with_reducible refine gate_dst (N := 100) rfl ?_); refine goesL_ (some 100) rfl rfl Try.func47 (by kernel_rfl) rfl #[.agg #[.int .i64 t20, .slice B24 t41.length d24, .int .i64 t22], .int .i64 1] rfl (by (try simp only [List.map_toArray, List.map_cons, List.map_nil]); first | done | rfl) ?_; (with_reducible refine (laws_heldKeep.calls k t20 _ _ t41 t22 1 t58 _ (Kd.R_reads' (Kd.S_R HO24.out)).2.2 (Kd.R_reads' (Kd.S_R HO24.out)).2.1 AQ57.out).mono ?_); rintro e W28 ⟨rfl, hb⟩; refine ⟨_, rfl, ?_⟩; replace HO24 := Aside0.mk (Kd.S_below HO24.out hb); replace BK1 := Aside0.mk (blk_below (g := gb1) (o := .cells #[.int .i64 a0_0, .slice A0_1 l0_1.length c0_1, .int .i64 a0_2] 24 (0, 0)) BK1.out hb); replace BK2 := Aside0.mk (blk_below (g := gb2) (o := .cells #[.int .i64 t9, .slice B13 t10.length d13, .int .i64 t11] 27 (0, 0)) BK2.out hb); replace BK3 := Aside0.mk (blk_below (g := gb3) (o := .cells #[.int .i64 t15, .slice B18 t36.length d18, .int .i64 t17] 27 (0, 0)) BK3.out hb); replace BK4 := Aside0.mk (blk_below (g := gb4) (o := .cells #[.int .i64 t20, .slice B24 t41.length d24, .int .i64 t22] 27 (0, 0)) BK4.out hb); replace BK5 := Aside0.mk (blk_below (g := gb5) (o := .cells #[.int .i64 t50, .slice B54 t51.length d54, .int .i64 t52] 27 (0, 0)) BK5.out hb); replace HB := Aside0.mk (below_step HB.out hb); replace HT := Aside0.mk (Nat.le_trans HT.out hb.size); clear hb; clear HO24; (try clear cz4_0 cz4_1 cz4_2)))
  go_ret
  exact ⟨by first | rfl | (simp; done) | (simp [*]; done), HB.out⟩

end Go.Proofs.Ytomiikbcahocaaa.G
