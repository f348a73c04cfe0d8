-- Laid by wip/gprint.py (the session's own program, round the kit's printer) for this claim.
import Derived.Test.YtomiikbcahocaaaGPyx0
import Derived.Test.YtomiikbcahocaaaGPyx1
import Derived.Test.YtomiikbcahocaaaGPyx2
import Derived.Test.YtomiikbcahocaaaGPyx5
import Derived.Test.YtomiikbcahocaaaGPyx7
import Derived.Test.YtomiikbcahocaaaGPyx8
import Derived.Test.YtomiikbcahocaaaGPyx9
import Derived.Test.YtomiikbcahocaaaGPyx10
namespace Go.Proofs.Ytomiikbcahocaaa.G
open Go.RowKit Go.Proofs.YtomiikbcahocaaaW.PrintWords Go.Proofs.YtomiikbcahocaaaW.PrintLast Go.Proofs.YtomiikbcahocaaaW.PrintMore
attribute [local go_sem] max2_int min2_int max_two min_two max_three min_three max_four min_four   -- for this text's walks alone
set_option linter.unusedVariables false
set_option linter.unusedSimpArgs false

/-! ### impl_PlayRides: function 44 -/
mutual
def impl_PlayRides.j0 : Nat → List (List Int) → Bool → Int → List (List Int) → Int → Option (List Bool × Bool × Bool)
  | 0, _, _, _, _, _ => none
  | k + 1, x1, x16, x303000, x303001, x303002 => if x16 = true then (some (([] : List Bool), false, false)) else ((impl_Keep_allOn.f x303000 x303001 x303002 false).bind fun bt305 => (impl_PlayRides.l0 k x1 (x1.length : Int) 0 x303000 x303001 x303002 bt305.1 bt305.2))
def impl_PlayRides.l0 : Nat → List (List Int) → Int → Int → Int → List (List Int) → Int → List Bool → Bool → Option (List Bool × Bool × Bool)
  | 0, _, _, _, _, _, _, _, _ => none
  | k + 1, x20, x21, x22, x303000, x303001, x303002, x310000, x310001 => if x22 < x21 then (if 0 ≤ x22 then (if x22 < (x20.length : Int) then ((impl_Keep_isRide.f k x303000 x303001 x303002 x310000 x310001 (rd_L1 x20 x22)).bind fun t311 => (if t311 = true then ((impl_Bank_ridden.f k x310000 x310001 (rd_L1 x20 x22)).bind fun bt312 => (impl_PlayRides.l0 k x20 x21 (wrap64 (x22 + 1)) x303000 x303001 x303002 bt312.1 bt312.2)) else (some (([] : List Bool), false, false)))) else (none)) else (none)) else (some (x310000, x310001, true))
end
def impl_PlayRides.f (k : Nat) (a0_0 : Int) (l0_1 : List (List Int)) (a0_2 : Int) (l1 : List (List Int)) : Option (List Bool × Bool × Bool) := (impl_IsKeep.f k a0_0 l0_1 a0_2).bind fun t304 => (if t304 = true then (impl_PlayRides.j0 k l1 (decide ((l1.length : Int) > 40)) a0_0 l0_1 a0_2) else (impl_PlayRides.j0 k l1 true a0_0 l0_1 a0_2))
set_option maxHeartbeats 8000000 in
set_option maxRecDepth 100000 in
theorem impl_PlayRides.calls (k : Nat) (a0_0 : Int) (A0_1 : Option Addr) (c0_1 : Nat) (l0_1 : List (List Int)) (a0_2 : Int) (A1 : Option Addr) (c1 : Nat) (l1 : List (List Int)) (r1 : List Bool) (r2 : Bool) (r3 : Bool) (w : World) (hr0_1 : Kd.C (Kd.slice 3 (Kd.int .i64)) w A0_1 l0_1.length l0_1) (hc0_1 : l0_1.length ≤ c0_1) (hr1 : Kd.C (Kd.slice 3 (Kd.int .i64)) w A1 l1.length l1) (hc1 : l1.length ≤ c1) (h : impl_PlayRides.f k a0_0 l0_1 a0_2 l1 = some (r1, r2, r3)) :
    Calls Try.prog 44 #[.agg #[.int .i64 a0_0, .slice A0_1 l0_1.length c0_1, .int .i64 a0_2], .slice A1 l1.length c1] w fun e w' => ∃ v0_ : Value, e = .returned (.tuple #[.agg #[v0_, .bool r2], .bool r3]) ∧ Kd.R Kd.bool 4 w' w.heap.size (fun _ => True) v0_ r1 ∧ Below w.heap.size w w' := by
  have hu27 := Try.underlying27
  have hu39 := Try.underlying39
  have HR0_1 := Aside0.mk hr0_1
  have HC0_1 := Aside0.mk hc0_1
  clear hr0_1 hc0_1
  have HR1 := Aside0.mk hr1
  have HC1 := Aside0.mk hc1
  clear hr1 hc1
  have HB := Aside0.mk (Below.refl w.heap.size w)
  have H : ((impl_IsKeep.f k a0_0 l0_1 a0_2).bind fun t304 => (if t304 = true then (impl_PlayRides.j0 k l1 (decide ((l1.length : Int) > 40)) a0_0 l0_1 a0_2) else (impl_PlayRides.j0 k l1 true a0_0 l0_1 a0_2))) = some (r1, r2, r3) := h
  clear h
  have HC3 := Aside0.mk H
  clear H
  go_enter Try.func44, Try.ntmps44
  go_upto_region 1 with (first | ((with_reducible refine gate_dst (N := 2) rfl ?_); (try (refine gate_guard (by rfl) ?_; dsimp only)); refine box_event ?hg (N := 2) ?hd (cs := #[.int .i64 a0_0, .slice A0_1 l0_1.length c0_1, .int .i64 a0_2]) (t := 27) ?hr ?_; (case hd => rfl); (case hg => rfl); (case hr => first | (go_simp; done) | (go_simp; rfl)); intro gb302 hg w4 hbox hb; have n0_ := Aside0.mk (below_step (by repeat (first | (with_reducible first | exact HB.out | apply below_alloc | apply pw_below_drewN | apply below_drew1) | exact HB.out)) hb); have n1_ := Aside0.mk (hbox); have n2_ := Aside0.mk ((by rw [hg]; exact (below_size (by repeat (first | (with_reducible first | exact HB.out | apply below_alloc | apply pw_below_drewN | apply below_drew1) | exact HB.out))) : w.heap.size ≤ gb302)); have n3_ := Aside0.mk ((by rw [hg]; exact (below_size (by repeat (first | (with_reducible first | exact HB.out | apply below_alloc | apply pw_below_drewN | apply below_drew1) | exact HB.out))) : w.heap.size ≤ gb302)); clear HB; have HB := n0_; have BK302 := n1_; have GW302 := n2_; have GE302 := n3_; clear n0_ n1_ n2_ n3_; clear hb hbox hg) | ((with_reducible refine gate_dst (N := 4) rfl ?_); (try (refine gate_guard (by rfl) ?_; dsimp only)); refine box_event ?hg (N := 4) ?hd (cs := #[.slice none 0 0, .bool false]) (t := 39) ?hr ?_; (case hd => rfl); (case hg => rfl); (case hr => first | (go_simp; done) | (go_simp; rfl)); intro gb303 hg w5 hbox hb; have n0_ := Aside0.mk (blk_below (g := gb302) (o := .cells #[.int .i64 a0_0, .slice A0_1 l0_1.length c0_1, .int .i64 a0_2] 27 (0, 0)) (by (with_reducible repeat (first | refine blk_drewN ?_ _ | refine blk_drew ?_ | refine blk_alloc ?_ _)); exact BK302.out) hb); have n1_ := Aside0.mk (below_step (by repeat (first | (with_reducible first | exact HB.out | apply below_alloc | apply pw_below_drewN | apply below_drew1 | refine below_set ?_ GE302.out) | exact HB.out)) hb); have n2_ := Aside0.mk (hbox); have n3_ := Aside0.mk ((by rw [hg]; exact (below_size (by repeat (first | (with_reducible first | exact HB.out | apply below_alloc | apply pw_below_drewN | apply below_drew1 | refine below_set ?_ GE302.out) | exact HB.out))) : w.heap.size ≤ gb303)); have n4_ := Aside0.mk ((by rw [hg]; exact (below_size (by repeat (first | (with_reducible first | exact HB.out | apply below_alloc | apply pw_below_drewN | apply below_drew1 | refine below_set ?_ GE302.out) | exact HB.out))) : w.heap.size ≤ gb303)); have n5_ := Aside0.mk ((by rw [hg]; exact Nat.ne_of_lt (blk_lt (g := gb302) (o := .cells #[.int .i64 a0_0, .slice A0_1 l0_1.length c0_1, .int .i64 a0_2] 27 (0, 0)) (by (with_reducible repeat (first | refine blk_drewN ?_ _ | refine blk_drew ?_ | refine blk_alloc ?_ _)); exact BK302.out)) : gb302 ≠ gb303)); have n6_ := Aside0.mk ((by rw [hg]; exact Nat.ne_of_gt (blk_lt (g := gb302) (o := .cells #[.int .i64 a0_0, .slice A0_1 l0_1.length c0_1, .int .i64 a0_2] 27 (0, 0)) (by (with_reducible repeat (first | refine blk_drewN ?_ _ | refine blk_drew ?_ | refine blk_alloc ?_ _)); exact BK302.out)) : gb303 ≠ gb302)); clear BK302; clear HB; have BK302 := n0_; have HB := n1_; have BK303 := n2_; have GW303 := n3_; have GE303 := n4_; have NB302_303 := n5_; have NB303_302 := n6_; clear n0_ n1_ n2_ n3_ n4_ n5_ n6_; clear hb hbox hg))
  (try simp only [Act.put, List.setIfInBounds_toArray, List.set_cons_zero, List.set_cons_succ])
  go_cut [16] (fun v16 wc => ∃ (kq : Nat) (x16_2 : Bool), v16 = .bool x16_2 ∧ Aside0 (impl_PlayRides.j0 kq l1 x16_2 a0_0 l0_1 a0_2 = some (r1, r2, r3)) ∧ Aside0 (kq ≤ k) ∧ Aside0 (wc.heap[gb302]? = some (.cells #[.int .i64 a0_0, (.slice A0_1 l0_1.length c0_1), .int .i64 a0_2] 27 (0, 0))) ∧ Aside0 (wc.heap[gb303]? = some (.cells #[(.slice none 0 0), .bool false] 39 (0, 0))) ∧ Aside0 (Below w.heap.size w wc))
  case first =>
    have H := HC3.out
    clear HC3
    replace H := Option.bind_eq_some_iff.mp H
    obtain ⟨t304, A60, H⟩ := H
    replace H : (if t304 = true then (impl_PlayRides.j0 k l1 (decide ((l1.length : Int) > 40)) a0_0 l0_1 a0_2) else (impl_PlayRides.j0 k l1 true a0_0 l0_1 a0_2)) = some (r1, r2, r3) := H
    have A6 := Aside0.mk A60
    clear A60
    by_cases c7 : t304 = true
    · subst c7
      have H1 : (impl_PlayRides.j0 k l1 (decide ((l1.length : Int) > 40)) a0_0 l0_1 a0_2) = some (r1, r2, r3) := by rw [if_pos rfl] at H; exact H
      clear H
      have H := H1
      clear H1
      have H' := Aside0.mk H
      clear H
      have hnb8 := NB302_303.out
      have hnc8 := NB303_302.out
      have hcz9_0 : w5.cell? ⟨gb302, 0, none⟩ = some (.int .i64 a0_0) := (blk_cell BK302.out 0).trans rfl
      have hcz9_1 : w5.cell? ⟨gb302, 1, none⟩ = some (.slice A0_1 l0_1.length c0_1) := (blk_cell BK302.out 1).trans rfl
      have hcz9_2 : w5.cell? ⟨gb302, 2, none⟩ = some (.int .i64 a0_2) := (blk_cell BK302.out 2).trans rfl
      have hfz9_0 := blk_frozen BK302.out 0
      have hfz9_1 := blk_frozen BK302.out 1
      have hfz9_2 := blk_frozen BK302.out 2
      go_wp2_with (first | ((with_reducible refine gate_callee (f := 15) rfl ?_); refine goesL_ (some 10) rfl rfl Try.func15 (by kernel_rfl) rfl #[.agg #[.int .i64 a0_0, .slice A0_1 l0_1.length c0_1, .int .i64 a0_2]] rfl (by (try simp only [List.map_toArray, List.map_cons, List.map_nil]); first | done | rfl | (simp only [List.length_drop, List.length_take]; rfl)) ?_; (with_reducible refine (impl_IsKeep.calls k a0_0 _ _ l0_1 a0_2 true _ ?side1 ?side2 A6.out).mono ?_); (case side1 => repeat (first | exact (Kd.C_below HR0_1.out HB.out) | (with_reducible refine Kd.C_alloc ?_ _) | (with_reducible refine Kd.C_drewN ?_ _) | (with_reducible refine Kd.C_drew ?_))); (case side2 => exact HC0_1.out); rintro e w10 ⟨rfl, hb⟩; refine ⟨_, rfl, ?_⟩; have n0_ := Aside0.mk (blk_below (g := gb302) (o := .cells #[.int .i64 a0_0, .slice A0_1 l0_1.length c0_1, .int .i64 a0_2] 27 (0, 0)) (by (with_reducible repeat (first | refine blk_drewN ?_ _ | refine blk_drew ?_ | refine blk_alloc ?_ _)); exact BK302.out) hb); have n1_ := Aside0.mk (blk_below (g := gb303) (o := .cells #[.slice none 0 0, .bool false] 39 (0, 0)) (by (with_reducible repeat (first | refine blk_drewN ?_ _ | refine blk_drew ?_ | refine blk_alloc ?_ _)); exact BK303.out) hb); have n2_ := Aside0.mk (below_step (by repeat (first | (with_reducible first | exact HB.out | apply below_alloc | apply pw_below_drewN | apply below_drew1 | refine below_set ?_ GE302.out | refine below_set ?_ GE303.out) | exact HB.out)) hb); clear BK302; clear BK303; clear HB; have BK302 := n0_; have BK303 := n1_; have HB := n2_; clear n0_ n1_ n2_; (try clear hb); (try clear hb2); (try clear hk); (try clear hi)))
      go_meet
      case rel => exact ⟨_, (decide ((l1.length : Int) > 40)), (by first | rfl | (simp; done) | (simp [*]; done)), H', ⟨by first | omega | exact Nat.le_refl _⟩, ⟨by (with_reducible repeat (first | refine blk_drewN ?_ _ | refine blk_drew ?_ | refine blk_alloc ?_ _)); exact BK302.out⟩, ⟨by (with_reducible repeat (first | refine blk_drewN ?_ _ | refine blk_drew ?_ | refine blk_alloc ?_ _)); exact BK303.out⟩, ⟨by repeat (first | (with_reducible first | exact HB.out | apply below_alloc | apply pw_below_drewN | apply below_drew1 | refine below_set ?_ GE302.out | refine below_set ?_ GE303.out) | exact HB.out)⟩⟩
    · replace c7 := Bool.eq_false_iff.mpr c7
      subst c7
      have H1 : (impl_PlayRides.j0 k l1 true a0_0 l0_1 a0_2) = some (r1, r2, r3) := by rw [if_neg (show ¬ (false = true) by decide)] at H; exact H
      clear H
      have H := H1
      clear H1
      have H' := Aside0.mk H
      clear H
      have hnb11 := NB302_303.out
      have hnc11 := NB303_302.out
      have hcz12_0 : w5.cell? ⟨gb302, 0, none⟩ = some (.int .i64 a0_0) := (blk_cell BK302.out 0).trans rfl
      have hcz12_1 : w5.cell? ⟨gb302, 1, none⟩ = some (.slice A0_1 l0_1.length c0_1) := (blk_cell BK302.out 1).trans rfl
      have hcz12_2 : w5.cell? ⟨gb302, 2, none⟩ = some (.int .i64 a0_2) := (blk_cell BK302.out 2).trans rfl
      have hfz12_0 := blk_frozen BK302.out 0
      have hfz12_1 := blk_frozen BK302.out 1
      have hfz12_2 := blk_frozen BK302.out 2
      go_wp2_with (first | ((with_reducible refine gate_callee (f := 15) rfl ?_); refine goesL_ (some 10) rfl rfl Try.func15 (by kernel_rfl) rfl #[.agg #[.int .i64 a0_0, .slice A0_1 l0_1.length c0_1, .int .i64 a0_2]] rfl (by (try simp only [List.map_toArray, List.map_cons, List.map_nil]); first | done | rfl | (simp only [List.length_drop, List.length_take]; rfl)) ?_; (with_reducible refine (impl_IsKeep.calls k a0_0 _ _ l0_1 a0_2 false _ ?side1 ?side2 A6.out).mono ?_); (case side1 => repeat (first | exact (Kd.C_below HR0_1.out HB.out) | (with_reducible refine Kd.C_alloc ?_ _) | (with_reducible refine Kd.C_drewN ?_ _) | (with_reducible refine Kd.C_drew ?_))); (case side2 => exact HC0_1.out); rintro e w13 ⟨rfl, hb⟩; refine ⟨_, rfl, ?_⟩; have n0_ := Aside0.mk (blk_below (g := gb302) (o := .cells #[.int .i64 a0_0, .slice A0_1 l0_1.length c0_1, .int .i64 a0_2] 27 (0, 0)) (by (with_reducible repeat (first | refine blk_drewN ?_ _ | refine blk_drew ?_ | refine blk_alloc ?_ _)); exact BK302.out) hb); have n1_ := Aside0.mk (blk_below (g := gb303) (o := .cells #[.slice none 0 0, .bool false] 39 (0, 0)) (by (with_reducible repeat (first | refine blk_drewN ?_ _ | refine blk_drew ?_ | refine blk_alloc ?_ _)); exact BK303.out) hb); have n2_ := Aside0.mk (below_step (by repeat (first | (with_reducible first | exact HB.out | apply below_alloc | apply pw_below_drewN | apply below_drew1 | refine below_set ?_ GE302.out | refine below_set ?_ GE303.out) | exact HB.out)) hb); clear BK302; clear BK303; clear HB; have BK302 := n0_; have BK303 := n1_; have HB := n2_; clear n0_ n1_ n2_; (try clear hb); (try clear hb2); (try clear hk); (try clear hi)))
      go_meet
      case rel => exact ⟨_, (true), (by first | rfl | (simp; done) | (simp [*]; done)), H', ⟨by first | omega | exact Nat.le_refl _⟩, ⟨by (with_reducible repeat (first | refine blk_drewN ?_ _ | refine blk_drew ?_ | refine blk_alloc ?_ _)); exact BK302.out⟩, ⟨by (with_reducible repeat (first | refine blk_drewN ?_ _ | refine blk_drew ?_ | refine blk_alloc ?_ _)); exact BK303.out⟩, ⟨by repeat (first | (with_reducible first | exact HB.out | apply below_alloc | apply pw_below_drewN | apply below_drew1 | refine below_set ?_ GE302.out | refine below_set ?_ GE303.out) | exact HB.out)⟩⟩
  case rest =>
    clear HC3
    try clear c1
    try clear p2
    try clear c4
    try clear c7
    try clear c8
    try clear c11
    try clear hcz12_0
    try clear hcz12_1
    try clear hcz12_2
    try clear hcz9_0
    try clear hcz9_1
    try clear hcz9_2
    try clear hfz12_0
    try clear hfz12_1
    try clear hfz12_2
    try clear hfz9_0
    try clear hfz9_1
    try clear hfz9_2
    obtain ⟨kq, x16_2, rfl, HA, HJ2, BK302, BK303, HB⟩ := hcut
    cases kq with
    | zero => exact absurd HA.out (by simp [impl_PlayRides.j0])
    | succ kj2 =>
      have H := HA.out
      clear HA
      simp only [impl_PlayRides.j0] at H
      by_cases c14 : x16_2 = true
      · subst c14
        have H1 : (some (([] : List Bool), false, false)) = some (r1, r2, r3) := by rw [if_pos rfl] at H; exact H
        clear H
        have H := H1
        clear H1
        simp only [Option.some.injEq, Prod.mk.injEq] at H
        obtain ⟨rfl, rfl, rfl⟩ := H
        have hnb15 := NB303_302.out
        have hnc15 := NB302_303.out
        have hcz16_0 : wc.cell? ⟨gb303, 0, none⟩ = some (.slice none 0 0) := (blk_cell BK303.out 0).trans rfl
        have hcz16_1 : wc.cell? ⟨gb303, 1, none⟩ = some (.bool false) := (blk_cell BK303.out 1).trans rfl
        have hfz16_0 := blk_frozen BK303.out 0
        have hfz16_1 := blk_frozen BK303.out 1
        go_wp2
        refine bodyPost_ret (results_ct rfl _ _ gb303 39 #[.slice none 0 0, .bool false] (0, 0) _ rfl (by (with_reducible repeat (first | refine blk_drewN ?_ _ | refine blk_drew ?_ | refine blk_alloc ?_ _)); refine blk_put (cs := #[.slice none 0 0, .bool false]) ?_ 1 _ rfl; (with_reducible repeat (first | refine blk_drewN ?_ _ | refine blk_drew ?_ | refine blk_alloc ?_ _)); refine blk_put (cs := #[.slice none 0 0, .bool false]) ?_ 0 _ rfl; (with_reducible repeat (first | refine blk_drewN ?_ _ | refine blk_drew ?_ | refine blk_alloc ?_ _)); exact BK303.out) Try.underlying39 rfl (by kernel_rfl)) rfl ?_
        exact ⟨_, by first | rfl | (simp [errW_none, errW_some] <;> rfl) | (simp [*, errW_none, errW_some] <;> rfl), by first | exact Kd.R_nil _ _ _ _ _ | exact Kd.N_nil _ _ _ _ _ | exact Kd.V_nil _ _ _ _ _ | exact Kd.Q_nil _ _ _ _ _ | exact Kd.S_nil _ _ _ _ _, by repeat (first | (with_reducible first | exact HB.out | apply below_alloc | apply pw_below_drewN | apply below_drew1 | refine below_set ?_ GE302.out | refine below_set ?_ GE303.out) | exact HB.out)⟩
      · replace c14 := Bool.eq_false_iff.mpr c14
        subst c14
        have H1 : ((impl_Keep_allOn.f a0_0 l0_1 a0_2 false).bind fun bt305 => (impl_PlayRides.l0 kj2 l1 (l1.length : Int) 0 a0_0 l0_1 a0_2 bt305.1 bt305.2)) = some (r1, r2, r3) := by rw [if_neg (show ¬ (false = true) by decide)] at H; exact H
        clear H
        have H := H1
        clear H1
        replace H := Option.bind_eq_some_iff.mp H
        obtain ⟨⟨t305, t308⟩, A170, H⟩ := H
        replace H : (impl_PlayRides.l0 kj2 l1 (l1.length : Int) 0 a0_0 l0_1 a0_2 t305 t308) = some (r1, r2, r3) := H
        have A17 := Aside0.mk A170
        clear A170
        have H' := Aside0.mk H
        clear H
        have hnb18 := NB302_303.out
        have hnc18 := NB303_302.out
        have hcz19_0 : wc.cell? ⟨gb302, 0, none⟩ = some (.int .i64 a0_0) := (blk_cell BK302.out 0).trans rfl
        have hcz19_1 : wc.cell? ⟨gb302, 1, none⟩ = some (.slice A0_1 l0_1.length c0_1) := (blk_cell BK302.out 1).trans rfl
        have hcz19_2 : wc.cell? ⟨gb302, 2, none⟩ = some (.int .i64 a0_2) := (blk_cell BK302.out 2).trans rfl
        have hfz19_0 := blk_frozen BK302.out 0
        have hfz19_1 := blk_frozen BK302.out 1
        have hfz19_2 := blk_frozen BK302.out 2
        go_wp2_with (first | ((with_reducible refine gate_callee (f := 63) rfl ?_); refine goesL_ (some 19) rfl rfl Try.func63 (by kernel_rfl) rfl #[.agg #[.int .i64 a0_0, .slice A0_1 l0_1.length c0_1, .int .i64 a0_2], .bool false] rfl (by (try simp only [List.map_toArray, List.map_cons, List.map_nil]); first | done | rfl | (simp only [List.length_drop, List.length_take]; rfl)) ?_; (with_reducible refine (impl_Keep_allOn.calls a0_0 _ _ l0_1 a0_2 false t305 t308 _ ?side1 ?side2 A17.out).mono ?_); (case side1 => repeat (first | exact (Kd.C_below HR0_1.out HB.out) | (with_reducible refine Kd.C_alloc ?_ _) | (with_reducible refine Kd.C_drewN ?_ _) | (with_reducible refine Kd.C_drew ?_))); (case side2 => exact HC0_1.out); rintro e w20 ⟨v306, rfl, ho0, hb⟩; refine ⟨_, rfl, ?_⟩; have n0_ := Aside0.mk (Kd.R_lower ho0 (below_size (by repeat (first | (with_reducible first | exact HB.out | apply below_alloc | apply pw_below_drewN | apply below_drew1 | refine below_set ?_ GE302.out | refine below_set ?_ GE303.out) | exact HB.out)))); have n1_ := Aside0.mk (blk_below (g := gb302) (o := .cells #[.int .i64 a0_0, .slice A0_1 l0_1.length c0_1, .int .i64 a0_2] 27 (0, 0)) (by (with_reducible repeat (first | refine blk_drewN ?_ _ | refine blk_drew ?_ | refine blk_alloc ?_ _)); exact BK302.out) hb); have n2_ := Aside0.mk (blk_below (g := gb303) (o := .cells #[.slice none 0 0, .bool false] 39 (0, 0)) (by (with_reducible repeat (first | refine blk_drewN ?_ _ | refine blk_drew ?_ | refine blk_alloc ?_ _)); exact BK303.out) hb); have n3_ := Aside0.mk (below_step (by repeat (first | (with_reducible first | exact HB.out | apply below_alloc | apply pw_below_drewN | apply below_drew1 | refine below_set ?_ GE302.out | refine below_set ?_ GE303.out) | exact HB.out)) hb); clear BK302; clear BK303; clear HB; have HO307 := n0_; have BK302 := n1_; have BK303 := n2_; have HB := n3_; clear n0_ n1_ n2_ n3_; (try clear hb); (try clear hb2); (try clear hk); (try clear hi); (try clear ho0)) | ((with_reducible refine gate_dst (N := 6) rfl ?_); (try (refine gate_guard (by rfl) ?_; dsimp only)); refine box_event ?hg (N := 6) ?hd (cs := #[.slice none 0 0, .bool false]) (t := 39) ?hr ?_; (case hd => rfl); (case hg => rfl); (case hr => first | (go_simp; done) | (go_simp; rfl)); intro gb309 hg w21 hbox hb; have n0_ := Aside0.mk (Kd.R_below (by (with_reducible repeat (first | apply Kd.R_alloc | apply Kd.R_drewN | apply Kd.R_drew)); exact HO307.out) hb); have n1_ := Aside0.mk (blk_below (g := gb302) (o := .cells #[.int .i64 a0_0, .slice A0_1 l0_1.length c0_1, .int .i64 a0_2] 27 (0, 0)) (by (with_reducible repeat (first | refine blk_drewN ?_ _ | refine blk_drew ?_ | refine blk_alloc ?_ _)); exact BK302.out) hb); have n2_ := Aside0.mk (blk_below (g := gb303) (o := .cells #[.slice none 0 0, .bool false] 39 (0, 0)) (by (with_reducible repeat (first | refine blk_drewN ?_ _ | refine blk_drew ?_ | refine blk_alloc ?_ _)); exact BK303.out) hb); have n3_ := Aside0.mk (below_step (by repeat (first | (with_reducible first | exact HB.out | apply below_alloc | apply pw_below_drewN | apply below_drew1 | refine below_set ?_ GE302.out | refine below_set ?_ GE303.out) | exact HB.out)) hb); have n4_ := Aside0.mk (hbox); have n5_ := Aside0.mk ((by rw [hg]; exact (below_size (by repeat (first | (with_reducible first | exact HB.out | apply below_alloc | apply pw_below_drewN | apply below_drew1 | refine below_set ?_ GE302.out | refine below_set ?_ GE303.out) | exact HB.out))) : w.heap.size ≤ gb309)); have n6_ := Aside0.mk ((by rw [hg]; exact (below_size (by repeat (first | (with_reducible first | exact HB.out | apply below_alloc | apply pw_below_drewN | apply below_drew1 | refine below_set ?_ GE302.out | refine below_set ?_ GE303.out) | exact HB.out))) : w.heap.size ≤ gb309)); have n7_ := Aside0.mk ((by rw [hg]; exact Nat.ne_of_lt (blk_lt (g := gb302) (o := .cells #[.int .i64 a0_0, .slice A0_1 l0_1.length c0_1, .int .i64 a0_2] 27 (0, 0)) (by (with_reducible repeat (first | refine blk_drewN ?_ _ | refine blk_drew ?_ | refine blk_alloc ?_ _)); exact BK302.out)) : gb302 ≠ gb309)); have n8_ := Aside0.mk ((by rw [hg]; exact Nat.ne_of_gt (blk_lt (g := gb302) (o := .cells #[.int .i64 a0_0, .slice A0_1 l0_1.length c0_1, .int .i64 a0_2] 27 (0, 0)) (by (with_reducible repeat (first | refine blk_drewN ?_ _ | refine blk_drew ?_ | refine blk_alloc ?_ _)); exact BK302.out)) : gb309 ≠ gb302)); have n9_ := Aside0.mk ((by rw [hg]; exact Nat.ne_of_lt (blk_lt (g := gb303) (o := .cells #[.slice none 0 0, .bool false] 39 (0, 0)) (by (with_reducible repeat (first | refine blk_drewN ?_ _ | refine blk_drew ?_ | refine blk_alloc ?_ _)); exact BK303.out)) : gb303 ≠ gb309)); have n10_ := Aside0.mk ((by rw [hg]; exact Nat.ne_of_gt (blk_lt (g := gb303) (o := .cells #[.slice none 0 0, .bool false] 39 (0, 0)) (by (with_reducible repeat (first | refine blk_drewN ?_ _ | refine blk_drew ?_ | refine blk_alloc ?_ _)); exact BK303.out)) : gb309 ≠ gb303)); clear HO307; clear BK302; clear BK303; clear HB; have HO307 := n0_; have BK302 := n1_; have BK303 := n2_; have HB := n3_; have BK309 := n4_; have GW309 := n5_; have GE309 := n6_; have NB302_309 := n7_; have NB309_302 := n8_; have NB303_309 := n9_; have NB309_303 := n10_; clear n0_ n1_ n2_ n3_ n4_ n5_ n6_ n7_ n8_ n9_ n10_; clear hb hbox hg; obtain ⟨Ao22, co22, eo22⟩ := Kd.R_slice HO307.out; subst eo22; have hnb23 := NB309_302.out; have hnc23 := NB302_309.out; have hnb24 := NB309_303.out; have hnc24 := NB303_309.out; have hcz25_0 : w21.cell? ⟨gb309, 0, none⟩ = some (.slice none 0 0) := (blk_cell BK309.out 0).trans rfl; have hcz25_1 : w21.cell? ⟨gb309, 1, none⟩ = some (.bool false) := (blk_cell BK309.out 1).trans rfl; have hfz25_0 := blk_frozen BK309.out 0; have hfz25_1 := blk_frozen BK309.out 1))
        go_loopg [22] kj2 (fun kq v22 w' => ∃ (x22_2 : Int) (x304001_2 : Bool) (x310000_2 : List Bool) (x310001_2 : Bool) (u310000 : Value), v22 = .int .i64 x22_2 ∧ Aside0 (impl_PlayRides.l0 kq l1 (l1.length : Int) x22_2 a0_0 l0_1 a0_2 x310000_2 x310001_2 = some (r1, r2, r3)) ∧ Aside0 (kq ≤ kj2) ∧ Aside0 (Kd.R Kd.bool 4 w' w.heap.size (fun _ => True) u310000 x310000_2) ∧ Aside0 (w'.heap[gb302]? = some (.cells #[.int .i64 a0_0, (.slice A0_1 l0_1.length c0_1), .int .i64 a0_2] 27 (0, 0))) ∧ Aside0 (w'.heap[gb303]? = some (.cells #[(.slice none 0 0), .bool x304001_2] 39 (0, 0))) ∧ Aside0 (w'.heap[gb309]? = some (.cells #[u310000, .bool x310001_2] 39 (0, 0))) ∧ Aside0 (Below w.heap.size w w'))
        case atStart => exact ⟨(0), (false), (t305), (t308), (.slice Ao22 t305.length co22), (by first | rfl | (simp; done) | (simp [*]; done)), H', ⟨Nat.le_refl _⟩, ⟨by (with_reducible repeat (first | apply Kd.R_alloc | apply Kd.R_drewN | apply Kd.R_drew)); exact Kd.R_mono (Kd.R_far (p := ⟨gb309, 1, none⟩) (Kd.R_far (p := ⟨gb309, 0, none⟩) (Kd.R_types HO307.out BK309.out (by decide)) (fun _ hk => hk.2) (.slice Ao22 t305.length co22)) (fun _ hk => hk.2) (.bool t308)) (fun _ hk => trivial)⟩, ⟨by (with_reducible repeat (first | refine blk_drewN ?_ _ | refine blk_drew ?_ | refine blk_alloc ?_ _)); refine blk_far ?_ NB302_309.out _; (with_reducible repeat (first | refine blk_drewN ?_ _ | refine blk_drew ?_ | refine blk_alloc ?_ _)); refine blk_far ?_ NB302_309.out _; (with_reducible repeat (first | refine blk_drewN ?_ _ | refine blk_drew ?_ | refine blk_alloc ?_ _)); exact BK302.out⟩, ⟨by (with_reducible repeat (first | refine blk_drewN ?_ _ | refine blk_drew ?_ | refine blk_alloc ?_ _)); refine blk_far ?_ NB303_309.out _; (with_reducible repeat (first | refine blk_drewN ?_ _ | refine blk_drew ?_ | refine blk_alloc ?_ _)); refine blk_far ?_ NB303_309.out _; (with_reducible repeat (first | refine blk_drewN ?_ _ | refine blk_drew ?_ | refine blk_alloc ?_ _)); exact BK303.out⟩, ⟨by (with_reducible repeat (first | refine blk_drewN ?_ _ | refine blk_drew ?_ | refine blk_alloc ?_ _)); refine blk_put (cs := #[.slice Ao22 t305.length co22, .bool false]) ?_ 1 _ rfl; (with_reducible repeat (first | refine blk_drewN ?_ _ | refine blk_drew ?_ | refine blk_alloc ?_ _)); refine blk_put (cs := #[.slice none 0 0, .bool false]) ?_ 0 _ rfl; (with_reducible repeat (first | refine blk_drewN ?_ _ | refine blk_drew ?_ | refine blk_alloc ?_ _)); exact BK309.out⟩, ⟨by repeat (first | (with_reducible first | exact HB.out | apply below_alloc | apply pw_below_drewN | apply below_drew1 | refine below_set ?_ GE302.out | refine below_set ?_ GE303.out | refine below_set ?_ GE309.out) | exact HB.out)⟩⟩
        case round =>
          clear H'
          try clear c1
          try clear c2
          try clear p2
          try clear c4
          try clear c6
          try clear c7
          try clear c8
          try clear c11
          try clear c14
          try clear c15
          try clear c18
          try clear c23
          try clear c24
          try clear hcz12_0
          try clear hcz12_1
          try clear hcz12_2
          try clear hcz16_0
          try clear hcz16_1
          try clear hcz19_0
          try clear hcz19_1
          try clear hcz19_2
          try clear hcz25_0
          try clear hcz25_1
          try clear hcz9_0
          try clear hcz9_1
          try clear hcz9_2
          try clear hfz12_0
          try clear hfz12_1
          try clear hfz12_2
          try clear hfz16_0
          try clear hfz16_1
          try clear hfz19_0
          try clear hfz19_1
          try clear hfz19_2
          try clear hfz25_0
          try clear hfz25_1
          try clear hfz9_0
          try clear hfz9_1
          try clear hfz9_2
          try clear p2
          obtain ⟨x22_2, x304001_2, x310000_2, x310001_2, u310000, rfl, HA, HK2, HO_310000, BK302, BK303, BK309, HB⟩ := hrel
          cases gk with
          | zero => exact absurd HA.out (by simp [impl_PlayRides.l0])
          | succ k2 =>
            have H := HA.out
            clear HA
            simp only [impl_PlayRides.l0] at H
            by_cases c26 : x22_2 < (l1.length : Int)
            · rw [if_pos c26] at H
              have c26b0 : decide (x22_2 < (l1.length : Int)) = true := decide_eq_true c26
              clear c26
              by_cases c27 : 0 ≤ x22_2
              · rw [if_pos c27] at H
                have c27b0 : decide (0 ≤ x22_2) = true := decide_eq_true c27
                clear c27
                by_cases c28 : x22_2 < (l1.length : Int)
                · rw [if_pos c28] at H
                  have c28b0 : decide (x22_2 < (l1.length : Int)) = true := decide_eq_true c28
                  clear c28
                  replace H := Option.bind_eq_some_iff.mp H
                  obtain ⟨t311, A290, H⟩ := H
                  replace H : (if t311 = true then ((impl_Bank_ridden.f k2 x310000_2 x310001_2 (rd_L1 l1 x22_2)).bind fun bt312 => (impl_PlayRides.l0 k2 l1 (l1.length : Int) (wrap64 (x22_2 + 1)) a0_0 l0_1 a0_2 bt312.1 bt312.2)) else (some (([] : List Bool), false, false))) = some (r1, r2, r3) := H
                  have A29 := Aside0.mk A290
                  clear A290
                  by_cases c30 : t311 = true
                  · subst c30
                    have H1 : ((impl_Bank_ridden.f k2 x310000_2 x310001_2 (rd_L1 l1 x22_2)).bind fun bt312 => (impl_PlayRides.l0 k2 l1 (l1.length : Int) (wrap64 (x22_2 + 1)) a0_0 l0_1 a0_2 bt312.1 bt312.2)) = some (r1, r2, r3) := by rw [if_pos rfl] at H; exact H
                    clear H
                    have H := H1
                    clear H1
                    replace H := Option.bind_eq_some_iff.mp H
                    obtain ⟨⟨t312, t315⟩, A310, H⟩ := H
                    replace H : (impl_PlayRides.l0 k2 l1 (l1.length : Int) (wrap64 (x22_2 + 1)) a0_0 l0_1 a0_2 t312 t315) = some (r1, r2, r3) := H
                    have A31 := Aside0.mk A310
                    clear A310
                    have H' := Aside0.mk H
                    clear H
                    have p310 : 0 ≤ (x22_2 : Int) := of_decide_eq_true (by first | (with_reducible assumption) | assumption)
                    have q310 : x22_2 < (l1.length : Int) := of_decide_eq_true (by first | (with_reducible assumption) | assumption)
                    obtain ⟨ad310, A310_0, c310_0, e310, hx310_0, hl310_0, hi310_0⟩ := at_L1 HR1.out x22_2 p310 q310
                    cases e310
                    replace hx310_0 := (HB.out.cell (World.block_lt_of_cell? w _ hx310_0)).trans hx310_0
                    have HR310_0 := Aside0.mk hi310_0
                    have HC310_0 := Aside0.mk hl310_0
                    clear hi310_0 hl310_0
                    replace p310 := eq_true p310
                    replace q310 := eq_true q310
                    have hnb32 := NB302_303.out
                    have hnc32 := NB303_302.out
                    have hnb33 := NB302_309.out
                    have hnc33 := NB309_302.out
                    have hcz34_0 : wr.cell? ⟨gb302, 0, none⟩ = some (.int .i64 a0_0) := (blk_cell BK302.out 0).trans rfl
                    have hcz34_1 : wr.cell? ⟨gb302, 1, none⟩ = some (.slice A0_1 l0_1.length c0_1) := (blk_cell BK302.out 1).trans rfl
                    have hcz34_2 : wr.cell? ⟨gb302, 2, none⟩ = some (.int .i64 a0_2) := (blk_cell BK302.out 2).trans rfl
                    have hfz34_0 := blk_frozen BK302.out 0
                    have hfz34_1 := blk_frozen BK302.out 1
                    have hfz34_2 := blk_frozen BK302.out 2
                    have hnb35 := NB309_303.out
                    have hnc35 := NB303_309.out
                    have hcz36_0 : wr.cell? ⟨gb309, 0, none⟩ = some (u310000) := (blk_cell BK309.out 0).trans rfl
                    have hcz36_1 : wr.cell? ⟨gb309, 1, none⟩ = some (.bool x310001_2) := (blk_cell BK309.out 1).trans rfl
                    have hfz36_0 := blk_frozen BK309.out 0
                    have hfz36_1 := blk_frozen BK309.out 1
                    obtain ⟨Ao37, co37, eo37⟩ := Kd.R_slice HO_310000.out
                    subst eo37
                    go_wp2_with (first | ((with_reducible refine gate_callee (f := 70) rfl ?_); refine goesL_ (some 29) rfl rfl Try.func70 (by kernel_rfl) rfl #[.agg #[.int .i64 a0_0, .slice A0_1 l0_1.length c0_1, .int .i64 a0_2], .agg #[.slice Ao37 x310000_2.length co37, .bool x310001_2], .slice A310_0 (rd_L1 l1 x22_2).length c310_0] rfl (by (try simp only [List.map_toArray, List.map_cons, List.map_nil]); first | done | rfl | (simp only [List.length_drop, List.length_take]; rfl)) ?_; (with_reducible refine (impl_Keep_isRide.calls k2 a0_0 _ _ l0_1 a0_2 _ _ x310000_2 x310001_2 _ _ (rd_L1 l1 x22_2) true _ ?side1 ?side2 ?side3 ?side4 ?side5 ?side6 A29.out).mono ?_); (case side1 => repeat (first | exact (Kd.C_below HR0_1.out HB.out) | (with_reducible refine Kd.C_alloc ?_ _) | (with_reducible refine Kd.C_drewN ?_ _) | (with_reducible refine Kd.C_drew ?_))); (case side2 => exact HC0_1.out); (case side3 => repeat (first | exact (Kd.R_reads' HO_310000.out).2.2 | (with_reducible refine Kd.C_alloc ?_ _) | (with_reducible refine Kd.C_drewN ?_ _) | (with_reducible refine Kd.C_drew ?_))); (case side4 => exact (Kd.R_reads' HO_310000.out).2.1); (case side5 => repeat (first | exact (Kd.C_below HR310_0.out HB.out) | (with_reducible refine Kd.C_alloc ?_ _) | (with_reducible refine Kd.C_drewN ?_ _) | (with_reducible refine Kd.C_drew ?_))); (case side6 => exact HC310_0.out); rintro e w38 ⟨rfl, hb⟩; refine ⟨_, rfl, ?_⟩; have n0_ := Aside0.mk (Kd.R_below (by (with_reducible repeat (first | apply Kd.R_alloc | apply Kd.R_drewN | apply Kd.R_drew)); exact HO_310000.out) hb); have n1_ := Aside0.mk (blk_below (g := gb302) (o := .cells #[.int .i64 a0_0, .slice A0_1 l0_1.length c0_1, .int .i64 a0_2] 27 (0, 0)) (by (with_reducible repeat (first | refine blk_drewN ?_ _ | refine blk_drew ?_ | refine blk_alloc ?_ _)); exact BK302.out) hb); have n2_ := Aside0.mk (blk_below (g := gb303) (o := .cells #[.slice none 0 0, .bool x304001_2] 39 (0, 0)) (by (with_reducible repeat (first | refine blk_drewN ?_ _ | refine blk_drew ?_ | refine blk_alloc ?_ _)); exact BK303.out) hb); have n3_ := Aside0.mk (blk_below (g := gb309) (o := .cells #[.slice Ao37 x310000_2.length co37, .bool x310001_2] 39 (0, 0)) (by (with_reducible repeat (first | refine blk_drewN ?_ _ | refine blk_drew ?_ | refine blk_alloc ?_ _)); exact BK309.out) hb); have n4_ := Aside0.mk (below_step (by repeat (first | (with_reducible first | exact HB.out | apply below_alloc | apply pw_below_drewN | apply below_drew1 | refine below_set ?_ GE302.out | refine below_set ?_ GE303.out | refine below_set ?_ GE309.out) | exact HB.out)) hb); clear HO_310000; clear BK302; clear BK303; clear BK309; clear HB; have HO_310000 := n0_; have BK302 := n1_; have BK303 := n2_; have BK309 := n3_; have HB := n4_; clear n0_ n1_ n2_ n3_ n4_; (try clear hb); (try clear hb2); (try clear hk); (try clear hi); have hcz39_0 : w38.cell? ⟨gb309, 0, none⟩ = some (.slice Ao37 x310000_2.length co37) := (blk_cell BK309.out 0).trans rfl; have hcz39_1 : w38.cell? ⟨gb309, 1, none⟩ = some (.bool x310001_2) := (blk_cell BK309.out 1).trans rfl; have hfz39_0 := blk_frozen BK309.out 0; have hfz39_1 := blk_frozen BK309.out 1) | ((with_reducible refine gate_callee (f := 71) rfl ?_); refine goesL_ (some 34) rfl rfl Try.func71 (by kernel_rfl) rfl #[.agg #[.slice Ao37 x310000_2.length co37, .bool x310001_2], .slice A310_0 (rd_L1 l1 x22_2).length c310_0] rfl (by (try simp only [List.map_toArray, List.map_cons, List.map_nil]); first | done | rfl | (simp only [List.length_drop, List.length_take]; rfl)) ?_; (with_reducible refine (impl_Bank_ridden.calls k2 _ _ x310000_2 x310001_2 _ _ (rd_L1 l1 x22_2) t312 t315 _ ?side1 ?side2 ?side3 ?side4 A31.out).mono ?_); (case side1 => repeat (first | exact (Kd.R_reads' HO_310000.out).2.2 | (with_reducible refine Kd.C_alloc ?_ _) | (with_reducible refine Kd.C_drewN ?_ _) | (with_reducible refine Kd.C_drew ?_))); (case side2 => exact (Kd.R_reads' HO_310000.out).2.1); (case side3 => repeat (first | exact (Kd.C_below HR310_0.out HB.out) | (with_reducible refine Kd.C_alloc ?_ _) | (with_reducible refine Kd.C_drewN ?_ _) | (with_reducible refine Kd.C_drew ?_))); (case side4 => exact HC310_0.out); rintro e w40 ⟨v313, rfl, ho0, hb⟩; refine ⟨_, rfl, ?_⟩; have n0_ := Aside0.mk (Kd.R_elder' (by (with_reducible repeat (first | apply Kd.R_alloc | apply Kd.R_drewN | apply Kd.R_drew)); exact HO_310000.out) (Kd.R_base ho0) hb); have n1_ := Aside0.mk (Kd.R_lower (Kd.R_new' ho0 (Kd.R_lt (by (with_reducible repeat (first | apply Kd.R_alloc | apply Kd.R_drewN | apply Kd.R_drew)); exact HO_310000.out))) (below_size (by repeat (first | (with_reducible first | exact HB.out | apply below_alloc | apply pw_below_drewN | apply below_drew1 | refine below_set ?_ GE302.out | refine below_set ?_ GE303.out | refine below_set ?_ GE309.out) | exact HB.out)))); have n2_ := Aside0.mk (blk_below (g := gb302) (o := .cells #[.int .i64 a0_0, .slice A0_1 l0_1.length c0_1, .int .i64 a0_2] 27 (0, 0)) (by (with_reducible repeat (first | refine blk_drewN ?_ _ | refine blk_drew ?_ | refine blk_alloc ?_ _)); exact BK302.out) hb); have n3_ := Aside0.mk (blk_below (g := gb303) (o := .cells #[.slice none 0 0, .bool x304001_2] 39 (0, 0)) (by (with_reducible repeat (first | refine blk_drewN ?_ _ | refine blk_drew ?_ | refine blk_alloc ?_ _)); exact BK303.out) hb); have n4_ := Aside0.mk (blk_below (g := gb309) (o := .cells #[.slice Ao37 x310000_2.length co37, .bool x310001_2] 39 (0, 0)) (by (with_reducible repeat (first | refine blk_drewN ?_ _ | refine blk_drew ?_ | refine blk_alloc ?_ _)); exact BK309.out) hb); have n5_ := Aside0.mk (below_step (by repeat (first | (with_reducible first | exact HB.out | apply below_alloc | apply pw_below_drewN | apply below_drew1 | refine below_set ?_ GE302.out | refine below_set ?_ GE303.out | refine below_set ?_ GE309.out) | exact HB.out)) hb); clear HO_310000; clear BK302; clear BK303; clear BK309; clear HB; have HO_310000 := n0_; have HO314 := n1_; have BK302 := n2_; have BK303 := n3_; have BK309 := n4_; have HB := n5_; clear n0_ n1_ n2_ n3_ n4_ n5_; (try clear hb); (try clear hb2); (try clear hk); (try clear hi); (try clear ho0); obtain ⟨Ao41, co41, eo41⟩ := Kd.R_slice HO314.out; subst eo41; have hcz42_0 : w40.cell? ⟨gb309, 0, none⟩ = some (.slice Ao37 x310000_2.length co37) := (blk_cell BK309.out 0).trans rfl; have hcz42_1 : w40.cell? ⟨gb309, 1, none⟩ = some (.bool x310001_2) := (blk_cell BK309.out 1).trans rfl; have hfz42_0 := blk_frozen BK309.out 0; have hfz42_1 := blk_frozen BK309.out 1))
                    go_roundg k2
                    case measure => have := HJ2.out; have := HK2.out; omega
                    case rel => exact ⟨(wrap64 (x22_2 + 1)), (x304001_2), (t312), (t315), (.slice Ao41 t312.length co41), (by first | rfl | (simp; done) | (simp [*]; done)), H', ⟨by have := HJ2.out; have := HK2.out; omega⟩, ⟨by (with_reducible repeat (first | apply Kd.R_alloc | apply Kd.R_drewN | apply Kd.R_drew)); exact Kd.R_mono (Kd.R_far (p := ⟨gb309, 1, none⟩) (Kd.R_far (p := ⟨gb309, 0, none⟩) (Kd.R_types HO314.out BK309.out (by decide)) (fun _ hk => hk.2) (.slice Ao41 t312.length co41)) (fun _ hk => hk.2) (.bool t315)) (fun _ hk => trivial)⟩, ⟨by (with_reducible repeat (first | refine blk_drewN ?_ _ | refine blk_drew ?_ | refine blk_alloc ?_ _)); refine blk_far ?_ NB302_309.out _; (with_reducible repeat (first | refine blk_drewN ?_ _ | refine blk_drew ?_ | refine blk_alloc ?_ _)); refine blk_far ?_ NB302_309.out _; (with_reducible repeat (first | refine blk_drewN ?_ _ | refine blk_drew ?_ | refine blk_alloc ?_ _)); exact BK302.out⟩, ⟨by (with_reducible repeat (first | refine blk_drewN ?_ _ | refine blk_drew ?_ | refine blk_alloc ?_ _)); refine blk_far ?_ NB303_309.out _; (with_reducible repeat (first | refine blk_drewN ?_ _ | refine blk_drew ?_ | refine blk_alloc ?_ _)); refine blk_far ?_ NB303_309.out _; (with_reducible repeat (first | refine blk_drewN ?_ _ | refine blk_drew ?_ | refine blk_alloc ?_ _)); exact BK303.out⟩, ⟨by (with_reducible repeat (first | refine blk_drewN ?_ _ | refine blk_drew ?_ | refine blk_alloc ?_ _)); refine blk_put (cs := #[.slice Ao41 t312.length co41, .bool x310001_2]) ?_ 1 _ rfl; (with_reducible repeat (first | refine blk_drewN ?_ _ | refine blk_drew ?_ | refine blk_alloc ?_ _)); refine blk_put (cs := #[.slice Ao37 x310000_2.length co37, .bool x310001_2]) ?_ 0 _ rfl; (with_reducible repeat (first | refine blk_drewN ?_ _ | refine blk_drew ?_ | refine blk_alloc ?_ _)); exact BK309.out⟩, ⟨by repeat (first | (with_reducible first | exact HB.out | apply below_alloc | apply pw_below_drewN | apply below_drew1 | refine below_set ?_ GE302.out | refine below_set ?_ GE303.out | refine below_set ?_ GE309.out) | exact HB.out)⟩⟩
                  · replace c30 := Bool.eq_false_iff.mpr c30
                    subst c30
                    have H1 : (some (([] : List Bool), false, false)) = some (r1, r2, r3) := by rw [if_neg (show ¬ (false = true) by decide)] at H; exact H
                    clear H
                    have H := H1
                    clear H1
                    simp only [Option.some.injEq, Prod.mk.injEq] at H
                    obtain ⟨rfl, rfl, rfl⟩ := H
                    have p310 : 0 ≤ (x22_2 : Int) := of_decide_eq_true (by first | (with_reducible assumption) | assumption)
                    have q310 : x22_2 < (l1.length : Int) := of_decide_eq_true (by first | (with_reducible assumption) | assumption)
                    obtain ⟨ad310, A310_0, c310_0, e310, hx310_0, hl310_0, hi310_0⟩ := at_L1 HR1.out x22_2 p310 q310
                    cases e310
                    replace hx310_0 := (HB.out.cell (World.block_lt_of_cell? w _ hx310_0)).trans hx310_0
                    have HR310_0 := Aside0.mk hi310_0
                    have HC310_0 := Aside0.mk hl310_0
                    clear hi310_0 hl310_0
                    replace p310 := eq_true p310
                    replace q310 := eq_true q310
                    have hnb43 := NB302_303.out
                    have hnc43 := NB303_302.out
                    have hnb44 := NB302_309.out
                    have hnc44 := NB309_302.out
                    have hcz45_0 : wr.cell? ⟨gb302, 0, none⟩ = some (.int .i64 a0_0) := (blk_cell BK302.out 0).trans rfl
                    have hcz45_1 : wr.cell? ⟨gb302, 1, none⟩ = some (.slice A0_1 l0_1.length c0_1) := (blk_cell BK302.out 1).trans rfl
                    have hcz45_2 : wr.cell? ⟨gb302, 2, none⟩ = some (.int .i64 a0_2) := (blk_cell BK302.out 2).trans rfl
                    have hfz45_0 := blk_frozen BK302.out 0
                    have hfz45_1 := blk_frozen BK302.out 1
                    have hfz45_2 := blk_frozen BK302.out 2
                    have hnb46 := NB309_303.out
                    have hnc46 := NB303_309.out
                    have hcz47_0 : wr.cell? ⟨gb309, 0, none⟩ = some (u310000) := (blk_cell BK309.out 0).trans rfl
                    have hcz47_1 : wr.cell? ⟨gb309, 1, none⟩ = some (.bool x310001_2) := (blk_cell BK309.out 1).trans rfl
                    have hfz47_0 := blk_frozen BK309.out 0
                    have hfz47_1 := blk_frozen BK309.out 1
                    obtain ⟨Ao48, co48, eo48⟩ := Kd.R_slice HO_310000.out
                    subst eo48
                    go_wp2_with (first | ((with_reducible refine gate_callee (f := 70) rfl ?_); refine goesL_ (some 29) rfl rfl Try.func70 (by kernel_rfl) rfl #[.agg #[.int .i64 a0_0, .slice A0_1 l0_1.length c0_1, .int .i64 a0_2], .agg #[.slice Ao48 x310000_2.length co48, .bool x310001_2], .slice A310_0 (rd_L1 l1 x22_2).length c310_0] rfl (by (try simp only [List.map_toArray, List.map_cons, List.map_nil]); first | done | rfl | (simp only [List.length_drop, List.length_take]; rfl)) ?_; (with_reducible refine (impl_Keep_isRide.calls k2 a0_0 _ _ l0_1 a0_2 _ _ x310000_2 x310001_2 _ _ (rd_L1 l1 x22_2) false _ ?side1 ?side2 ?side3 ?side4 ?side5 ?side6 A29.out).mono ?_); (case side1 => repeat (first | exact (Kd.C_below HR0_1.out HB.out) | (with_reducible refine Kd.C_alloc ?_ _) | (with_reducible refine Kd.C_drewN ?_ _) | (with_reducible refine Kd.C_drew ?_))); (case side2 => exact HC0_1.out); (case side3 => repeat (first | exact (Kd.R_reads' HO_310000.out).2.2 | (with_reducible refine Kd.C_alloc ?_ _) | (with_reducible refine Kd.C_drewN ?_ _) | (with_reducible refine Kd.C_drew ?_))); (case side4 => exact (Kd.R_reads' HO_310000.out).2.1); (case side5 => repeat (first | exact (Kd.C_below HR310_0.out HB.out) | (with_reducible refine Kd.C_alloc ?_ _) | (with_reducible refine Kd.C_drewN ?_ _) | (with_reducible refine Kd.C_drew ?_))); (case side6 => exact HC310_0.out); rintro e w49 ⟨rfl, hb⟩; refine ⟨_, rfl, ?_⟩; have n0_ := Aside0.mk (Kd.R_below (by (with_reducible repeat (first | apply Kd.R_alloc | apply Kd.R_drewN | apply Kd.R_drew)); exact HO_310000.out) hb); have n1_ := Aside0.mk (blk_below (g := gb302) (o := .cells #[.int .i64 a0_0, .slice A0_1 l0_1.length c0_1, .int .i64 a0_2] 27 (0, 0)) (by (with_reducible repeat (first | refine blk_drewN ?_ _ | refine blk_drew ?_ | refine blk_alloc ?_ _)); exact BK302.out) hb); have n2_ := Aside0.mk (blk_below (g := gb303) (o := .cells #[.slice none 0 0, .bool x304001_2] 39 (0, 0)) (by (with_reducible repeat (first | refine blk_drewN ?_ _ | refine blk_drew ?_ | refine blk_alloc ?_ _)); exact BK303.out) hb); have n3_ := Aside0.mk (blk_below (g := gb309) (o := .cells #[.slice Ao48 x310000_2.length co48, .bool x310001_2] 39 (0, 0)) (by (with_reducible repeat (first | refine blk_drewN ?_ _ | refine blk_drew ?_ | refine blk_alloc ?_ _)); exact BK309.out) hb); have n4_ := Aside0.mk (below_step (by repeat (first | (with_reducible first | exact HB.out | apply below_alloc | apply pw_below_drewN | apply below_drew1 | refine below_set ?_ GE302.out | refine below_set ?_ GE303.out | refine below_set ?_ GE309.out) | exact HB.out)) hb); clear HO_310000; clear BK302; clear BK303; clear BK309; clear HB; have HO_310000 := n0_; have BK302 := n1_; have BK303 := n2_; have BK309 := n3_; have HB := n4_; clear n0_ n1_ n2_ n3_ n4_; (try clear hb); (try clear hb2); (try clear hk); (try clear hi); have hcz50_0 : w49.cell? ⟨gb303, 0, none⟩ = some (.slice none 0 0) := (blk_cell BK303.out 0).trans rfl; have hcz50_1 : w49.cell? ⟨gb303, 1, none⟩ = some (.bool x304001_2) := (blk_cell BK303.out 1).trans rfl; have hfz50_0 := blk_frozen BK303.out 0; have hfz50_1 := blk_frozen BK303.out 1))
                    refine bodyPost_ret (results_ct rfl _ _ gb303 39 #[.slice none 0 0, .bool false] (0, 0) _ rfl (by (with_reducible repeat (first | refine blk_drewN ?_ _ | refine blk_drew ?_ | refine blk_alloc ?_ _)); refine blk_put (cs := #[.slice none 0 0, .bool x304001_2]) ?_ 1 _ rfl; (with_reducible repeat (first | refine blk_drewN ?_ _ | refine blk_drew ?_ | refine blk_alloc ?_ _)); refine blk_put (cs := #[.slice none 0 0, .bool x304001_2]) ?_ 0 _ rfl; (with_reducible repeat (first | refine blk_drewN ?_ _ | refine blk_drew ?_ | refine blk_alloc ?_ _)); exact BK303.out) Try.underlying39 rfl (by kernel_rfl)) rfl ?_
                    exact ⟨_, by first | rfl | (simp [errW_none, errW_some] <;> rfl) | (simp [*, errW_none, errW_some] <;> rfl), by first | exact Kd.R_nil _ _ _ _ _ | exact Kd.N_nil _ _ _ _ _ | exact Kd.V_nil _ _ _ _ _ | exact Kd.Q_nil _ _ _ _ _ | exact Kd.S_nil _ _ _ _ _, by repeat (first | (with_reducible first | exact HB.out | apply below_alloc | apply pw_below_drewN | apply below_drew1 | refine below_set ?_ GE302.out | refine below_set ?_ GE303.out | refine below_set ?_ GE309.out) | exact HB.out)⟩
                · rw [if_neg c28] at H
                  exact absurd H (by simp)
              · rw [if_neg c27] at H
                exact absurd H (by simp)
            · rw [if_neg c26] at H
              have c26b0 : decide (x22_2 < (l1.length : Int)) = false := decide_eq_false c26
              clear c26
              simp only [Option.some.injEq, Prod.mk.injEq] at H
              obtain ⟨rfl, rfl, rfl⟩ := H
              have hnb51 := NB309_302.out
              have hnc51 := NB302_309.out
              have hnb52 := NB309_303.out
              have hnc52 := NB303_309.out
              have hcz53_0 : wr.cell? ⟨gb309, 0, none⟩ = some (u310000) := (blk_cell BK309.out 0).trans rfl
              have hcz53_1 : wr.cell? ⟨gb309, 1, none⟩ = some (.bool x310001_2) := (blk_cell BK309.out 1).trans rfl
              have hfz53_0 := blk_frozen BK309.out 0
              have hfz53_1 := blk_frozen BK309.out 1
              obtain ⟨Ao54, co54, eo54⟩ := Kd.R_slice HO_310000.out
              subst eo54
              have hnb55 := NB303_302.out
              have hnc55 := NB302_303.out
              have hcz56_0 : wr.cell? ⟨gb303, 0, none⟩ = some (.slice none 0 0) := (blk_cell BK303.out 0).trans rfl
              have hcz56_1 : wr.cell? ⟨gb303, 1, none⟩ = some (.bool x304001_2) := (blk_cell BK303.out 1).trans rfl
              have hfz56_0 := blk_frozen BK303.out 0
              have hfz56_1 := blk_frozen BK303.out 1
              go_wp2
              refine bodyPost_ret (results_ct rfl _ _ gb303 39 #[.slice Ao54 x310000_2.length co54, .bool x310001_2] (0, 0) _ rfl (by (with_reducible repeat (first | refine blk_drewN ?_ _ | refine blk_drew ?_ | refine blk_alloc ?_ _)); refine blk_put (cs := #[.slice Ao54 x310000_2.length co54, .bool x304001_2]) ?_ 1 _ rfl; (with_reducible repeat (first | refine blk_drewN ?_ _ | refine blk_drew ?_ | refine blk_alloc ?_ _)); refine blk_put (cs := #[.slice none 0 0, .bool x304001_2]) ?_ 0 _ rfl; (with_reducible repeat (first | refine blk_drewN ?_ _ | refine blk_drew ?_ | refine blk_alloc ?_ _)); exact BK303.out) Try.underlying39 rfl (by kernel_rfl)) rfl ?_
              exact ⟨_, by first | rfl | (simp [errW_none, errW_some] <;> rfl) | (simp [*, errW_none, errW_some] <;> rfl), by (with_reducible repeat (first | apply Kd.R_alloc | apply Kd.R_drewN | apply Kd.R_drew)); exact Kd.R_mono (Kd.R_far (p := ⟨gb303, 1, none⟩) (Kd.R_far (p := ⟨gb303, 0, none⟩) (Kd.R_types HO_310000.out BK303.out (by decide)) (fun _ hk => hk.2) (.slice Ao54 x310000_2.length co54)) (fun _ hk => hk.2) (.bool x310001_2)) (fun _ hk => trivial), by repeat (first | (with_reducible first | exact HB.out | apply below_alloc | apply pw_below_drewN | apply below_drew1 | refine below_set ?_ GE302.out | refine below_set ?_ GE303.out | refine below_set ?_ GE309.out) | exact HB.out)⟩

/-! ### laws_FnExactPlayRides: function 10 -/
theorem laws_FnExactPlayRides.newR {α : Type} {d : Kd α} {e T : Nat} {w W W' : World} {v : Value} {xs : List α} (h : d.R e W' W.heap.size (fun _ => True) v xs) (ht : T ≤ W.heap.size) (hw : w.heap.size ≤ W.heap.size) (hs : W.heap.size ≤ W'.heap.size) : ∃ lo hi : Nat, (T ≤ lo ∧ lo ≤ hi) ∧ hi ≤ W'.heap.size ∧ d.R e W' w.heap.size (fun k_ => lo ≤ k_ ∧ k_ < hi) v xs :=
  ⟨W.heap.size, W'.heap.size, ⟨ht, hs⟩, Nat.le_refl _, Kd.R_lower (Kd.R_mono (Kd.R_bound h) (fun _ hk => ⟨hk.2.1, hk.2.2.1⟩)) hw⟩
theorem laws_FnExactPlayRides.newS {α : Type} {d : Kd α} {e T : Nat} {w W W' : World} {v : Value} {xs : List α} (h : Kd.S d e W' W.heap.size (fun _ => True) v xs) (ht : T ≤ W.heap.size) (hw : w.heap.size ≤ W.heap.size) (hs : W.heap.size ≤ W'.heap.size) : ∃ lo hi : Nat, (T ≤ lo ∧ lo ≤ hi) ∧ hi ≤ W'.heap.size ∧ Kd.S d e W' w.heap.size (fun k_ => lo ≤ k_ ∧ k_ < hi) v xs :=
  ⟨W.heap.size, W'.heap.size, ⟨ht, hs⟩, Nat.le_refl _, Kd.S_lower (Kd.S_mono (Kd.S_bound h) (fun _ hk => ⟨hk.2.1, hk.2.2.1⟩)) hw⟩
theorem laws_FnExactPlayRides.newN {α : Type} {d : Kd α} {e T : Nat} {w W W' : World} {v : Value} {xs : List α} (h : Kd.N d e W' W.heap.size (fun k_ => W.heap.size ≤ k_) v xs) (ht : T ≤ W.heap.size) (hw : w.heap.size ≤ W.heap.size) (hs : W.heap.size ≤ W'.heap.size) : ∃ lo hi : Nat, (T ≤ lo ∧ lo ≤ hi) ∧ hi ≤ W'.heap.size ∧ Kd.N d e W' w.heap.size (fun k_ => lo ≤ k_ ∧ k_ < hi) v xs :=
  ⟨W.heap.size, W'.heap.size, ⟨ht, hs⟩, Nat.le_refl _, Kd.N_lower (Kd.N_mono (Kd.N_bound h) (fun _ hk => hk)) hw⟩
theorem laws_FnExactPlayRides.grownN {α : Type} {d : Kd α} {e b lo hi g : Nat} {W W' : World} {v : Value} {xs : List α} (h : Kd.N d e W b (fun k_ => lo ≤ k_ ∧ k_ < hi) v xs) (hg : W.grownBy W' (some g)) (hne : g < lo ∨ hi ≤ g) : Kd.N d e W' b (fun k_ => lo ≤ k_ ∧ k_ < hi) v xs :=
  Kd.N_grown h hg (fun k hk he => by injection he with he; have h1 := hk.1; have h2 := hk.2; omega)
theorem laws_FnExactPlayRides.keptN {α : Type} {d : Kd α} {e b lo hi lo' hi' : Nat} {W W' : World} {v : Value} {xs : List α} (h : Kd.N d e W b (fun k_ => lo ≤ k_ ∧ k_ < hi) v xs) (hk : Kept W W' (fun k_ => lo' ≤ k_ ∧ k_ < hi')) (hne : hi ≤ lo' ∨ hi' ≤ lo) : Kd.N d e W' b (fun k_ => lo ≤ k_ ∧ k_ < hi) v xs :=
  Kd.N_kept h hk (fun k h1 h2 => by have h3 := h1.1; have h4 := h1.2; have h5 := h2.1; have h6 := h2.2; omega)
theorem laws_FnExactPlayRides.grownR {α : Type} {d : Kd α} {e b lo hi g : Nat} {W W' : World} {v : Value} {xs : List α} (h : d.R e W b (fun k_ => lo ≤ k_ ∧ k_ < hi) v xs) (hg : W.grownBy W' (some g)) (hne : g < lo ∨ hi ≤ g) : d.R e W' b (fun k_ => lo ≤ k_ ∧ k_ < hi) v xs :=
  Kd.R_grown h hg (fun k hk he => by injection he with he; have h1 := hk.1; have h2 := hk.2; omega)
theorem laws_FnExactPlayRides.grownS {α : Type} {d : Kd α} {e b lo hi g : Nat} {W W' : World} {v : Value} {xs : List α} (h : Kd.S d e W b (fun k_ => lo ≤ k_ ∧ k_ < hi) v xs) (hg : W.grownBy W' (some g)) (hne : g < lo ∨ hi ≤ g) : Kd.S d e W' b (fun k_ => lo ≤ k_ ∧ k_ < hi) v xs :=
  Kd.S_grown h hg (fun k hk he => by injection he with he; have h1 := hk.1; have h2 := hk.2; omega)
theorem laws_FnExactPlayRides.keptR {α : Type} {d : Kd α} {e b lo hi lo' hi' : Nat} {W W' : World} {v : Value} {xs : List α} (h : d.R e W b (fun k_ => lo ≤ k_ ∧ k_ < hi) v xs) (hk : Kept W W' (fun k_ => lo' ≤ k_ ∧ k_ < hi')) (hne : hi ≤ lo' ∨ hi' ≤ lo) : d.R e W' b (fun k_ => lo ≤ k_ ∧ k_ < hi) v xs :=
  Kd.R_kept h hk (fun k h1 h2 => by have h3 := h1.1; have h4 := h1.2; have h5 := h2.1; have h6 := h2.2; omega)
theorem laws_FnExactPlayRides.keptS {α : Type} {d : Kd α} {e b lo hi lo' hi' : Nat} {W W' : World} {v : Value} {xs : List α} (h : Kd.S d e W b (fun k_ => lo ≤ k_ ∧ k_ < hi) v xs) (hk : Kept W W' (fun k_ => lo' ≤ k_ ∧ k_ < hi')) (hne : hi ≤ lo' ∨ hi' ≤ lo) : Kd.S d e W' b (fun k_ => lo ≤ k_ ∧ k_ < hi) v xs :=
  Kd.S_kept h hk (fun k h1 h2 => by have h3 := h1.1; have h4 := h1.2; have h5 := h2.1; have h6 := h2.2; omega)
theorem laws_FnExactPlayRides.keptB {lo hi g : Nat} {o : Obj} {W W' : World} (h : W.heap[g]? = some o) (hk : Kept W W' (fun k_ => lo ≤ k_ ∧ k_ < hi)) (hne : g < lo ∨ hi ≤ g) : W'.heap[g]? = some o :=
  blk_kept h hk (fun h2 => by have h5 := h2.1; have h6 := h2.2; omega)
theorem laws_FnExactPlayRides.grownB {g g' : Nat} {o : Obj} {W W' : World} (h : W.heap[g]? = some o) (hg : W.grownBy W' (some g')) (hne : g ≠ g') : W'.heap[g]? = some o :=
  (hg.block g (blk_lt h) (fun he => hne (by injection he))).trans h
theorem laws_FnExactPlayRides.runs {P : Program} {W : World} {g T : Nat} {cur : Array Value} (t : TypeId) (u : Value) (new : List Value) (hb : W.heap[g]? = some (.cells cur T (0, 0))) (hu : u.cells.toList = new) (ht : (P.info? t).map (·.size) = some new.length) (hsz : new.length = cur.size) (h1 : ∀ q ∈ new, q.oneCell' = true) :
    ∃ w1, (Instr.storeAt t (.pointer (some ⟨g, 0, none⟩)) u).run P W = .ok () w1 ∧ w1.heap[g]? = some (.cells new.toArray T (0, 0)) ∧ W.grownBy w1 (some g) := by
  refine ⟨W.setCells g 0 new, run_store_run t u new hb hu ht (by omega) h1, ?_, ?_⟩
  · obtain ⟨cur', c1, c2, c3⟩ := setCells_row new 0 W cur hb (by omega)
    rw [c1]
    rw [List.take_zero, List.nil_append, Nat.zero_add, hsz, List.drop_eq_nil_of_le (by rw [Array.length_toList]; omega), List.append_nil] at c3
    rw [← c3]
  · obtain ⟨s1, s2, s3, s4⟩ := setCells_same g new 0 W
    exact ⟨s1, s2, s3, by rw [s4]; exact Nat.le_refl _, fun k _ hk => setCells_far _ _ k (fun he => hk (by rw [he]))⟩
theorem laws_FnExactPlayRides.store {P : Program} {ops : Array Oper} {rest : List Oper} {o : Oper} {a : Act} {Q : Exit → Act → World → Prop} {W : World} (hgd : o.guard = none) (hN : o.dst = none) {t : TypeId} {p : Tmp} {x : Operand} (ho : o.op = .store t (.tmp p) x) (g T : Nat) (cur : Array Value) (u : Value) (new : List Value) (haddr : a.eval (.tmp p) = .pointer (some ⟨g, 0, none⟩)) (hx : a.eval x = u) (hb : W.heap[g]? = some (.cells cur T (0, 0))) (hu : u.cells.toList = new) (ht : (P.info? t).map (·.size) = some new.length) (hsz : new.length = cur.size) (h1 : ∀ q ∈ new, q.oneCell' = true)
    (h : ∀ w1, w1.heap[g]? = some (.cells new.toArray T (0, 0)) → W.grownBy w1 (some g) → wpList P ops Q rest a w1) : wpList P ops Q (o :: rest) a W := by
  obtain ⟨w1, hrun, h2, h3⟩ := laws_FnExactPlayRides.runs (P := P) t u new hb hu ht hsz h1
  refine wpList_plain hgd fun K hK => ?_
  unfold Oper.wp execOp
  simp only [ho, haddr, hx, Sem.run_bind, Sem.run_pure, Result.andThen_ok, hrun]
  show K (a.put o.dst undef) _
  rw [hN]
  exact hK _ _ (h w1 h2 h3)
theorem laws_FnExactPlayRides.storeK {P : Program} {ops : Array Oper} {o : Oper} {a : Act} {Q : Exit → Act → World → Prop} {Kc : Act → World → Prop} {W : World} (hw : Region.wanted o (yielded ops a.tmps) = true) (hN : o.dst = none) {t : TypeId} {p : Tmp} {x : Operand} (ho : o.op = .store t (.tmp p) x) (g T : Nat) (cur : Array Value) (u : Value) (new : List Value) (haddr : a.eval (.tmp p) = .pointer (some ⟨g, 0, none⟩)) (hx : a.eval x = u) (hb : W.heap[g]? = some (.cells cur T (0, 0))) (hu : u.cells.toList = new) (ht : (P.info? t).map (·.size) = some new.length) (hsz : new.length = cur.size) (h1 : ∀ q ∈ new, q.oneCell' = true)
    (h : ∀ w1, w1.heap[g]? = some (.cells new.toArray T (0, 0)) → W.grownBy w1 (some g) → Kc a w1) : if Region.wanted o (yielded ops a.tmps) = true then Oper.wp P o a W Kc Q else Kc (a.put none undef) W := by
  obtain ⟨w1, hrun, h2, h3⟩ := laws_FnExactPlayRides.runs (P := P) t u new hb hu ht hsz h1
  rw [if_pos hw]
  unfold Oper.wp execOp
  simp only [ho, haddr, hx, Sem.run_bind, Sem.run_pure, Result.andThen_ok, hrun]
  show Kc (a.put o.dst undef) _
  rw [hN]
  exact h w1 h2 h3
def laws_FnExactPlayRides.f (k : Nat) (a0_0 : Int) (l0_1 : List (List Int)) (a0_2 : Int) (l1 : List (List Int)) : Option Bool := (laws_szKeep.f k a0_0 l0_1 a0_2 1048576).bind fun b1 => (if b1 < 0 then some true else ((laws_szIntSS.f k l1 b1).bind fun b3 => (if b3 < 0 then some true else ((laws_toKeep.f k a0_0 l0_1 a0_2).bind fun b5 => ((laws_toIntSS.f k l1).bind fun b10 => ((spec_PlayRides.f k b5.1 b5.2.1 b5.2.2 b10).bind fun b13 => ((laws_toKeep.f k a0_0 l0_1 a0_2).bind fun b18 => ((laws_toIntSS.f k l1).bind fun b23 => ((impl_PlayRides.f k b18.1 b18.2.1 b18.2.2 b23).bind fun b26 => ((laws_eqBank.f k b26.1 b26.2.1 b13.1 b13.2.1).bind fun b31 => (if b31 = true then (if (b26.2.2 != b13.2.2) = true then none else ((laws_toKeep.f k a0_0 l0_1 a0_2).bind fun b33 => ((laws_eqKeep.f k b18.1 b18.2.1 b18.2.2 b33.1 b33.2.1 b33.2.2).bind fun b38 => (if b38 = true then ((laws_toIntSS.f k l1).bind fun b40 => ((laws_eqIntSS.f k b23 b40).bind fun b43 => (if b43 = true then ((laws_markKeep.f k b18.1 b18.2.1 b18.2.2 1).bind fun b45 => ((laws_markIntSS.f k b23 b45.1).bind fun b48 => ((laws_eqBank.f k b26.1 b26.2.1 b13.1 b13.2.1).bind fun b51 => (if b48.1 < 0 then none else (if b51 = true then (if (b26.2.2 != b13.2.2) = true then none else ((laws_markBank.f k b26.1 b26.2.1 1).bind fun b53 => ((laws_heldBank.f k b53.2 b26.2.1 1).bind fun b56 => (if b56 < 0 then none else (if b56 = b53.1 then ((laws_toKeep.f k a0_0 l0_1 a0_2).bind fun b58 => ((laws_toIntSS.f k l1).bind fun b63 => ((impl_PlayRides.f k b58.1 b58.2.1 b58.2.2 b63).bind fun b66 => ((laws_eqBank.f k b66.1 b66.2.1 b13.1 b13.2.1).bind fun b71 => (if b71 = true then (if (b66.2.2 != b13.2.2) = true then none else ((laws_heldBank.f k b53.2 b26.2.1 1).bind fun b73 => (if b73 < 0 then none else (if b73 = b53.1 then (some true) else none)))) else none))))) else none))))) else none))))) else none))) else none)))) else none)))))))))))
set_option maxHeartbeats 16000000 in
set_option maxRecDepth 100000 in
theorem laws_FnExactPlayRides.calls (k : Nat) (a0_0 : Int) (A0_1 : Option Addr) (c0_1 : Nat) (l0_1 : List (List Int)) (a0_2 : Int) (A1 : Option Addr) (c1 : Nat) (l1 : List (List Int)) (r : Bool) (w : World) (hr0_1 : Kd.C (Kd.slice 3 (Kd.int .i64)) w A0_1 l0_1.length l0_1) (hc0_1 : l0_1.length ≤ c0_1) (hr1 : Kd.C (Kd.slice 3 (Kd.int .i64)) w A1 l1.length l1) (hc1 : l1.length ≤ c1) (h : laws_FnExactPlayRides.f k a0_0 l0_1 a0_2 l1 = some r) :
    Calls Try.prog 10 #[.agg #[.int .i64 a0_0, .slice A0_1 l0_1.length c0_1, .int .i64 a0_2], .slice A1 l1.length c1] w fun e w' => e = .returned (.bool r) ∧ Below w.heap.size w w' := by
  have hu24 := Try.underlying24
  have hu27 := Try.underlying27
  have hu39 := Try.underlying39
  have HR0_1 := Aside0.mk hr0_1
  have HC0_1 := Aside0.mk hc0_1
  have HR1 := Aside0.mk hr1
  have HC1 := Aside0.mk hc1
  clear hr0_1 hc0_1 hr1 hc1
  have HB := Aside0.mk (Below.refl w.heap.size w)
  have HT := Aside0.mk (Nat.le_refl w.heap.size)
  have HN := Aside0.mk trivial
  have H := h
  unfold laws_FnExactPlayRides.f at H
  clear h
  obtain ⟨t2, AQ1_, H⟩ := Option.bind_eq_some_iff.mp H
  have AQ1 := Aside0.mk AQ1_
  clear AQ1_
  (try dsimp only at AQ1 H)
  by_cases c75 : t2 < 0
  · rw [if_pos c75] at H
    have c75b0 : decide (t2 < 0) = true := decide_eq_true c75
    clear c75
    obtain rfl := Option.some.inj H
    go_enter Try.func10, Try.ntmps10
    try go_wp2_with (first | ((with_reducible refine gate_dst (N := 2) rfl ?_); refine box_event ?hg (N := 2) ?hd (cs := #[.int .i64 a0_0, .slice A0_1 l0_1.length c0_1, .int .i64 a0_2]) (t := 24) ?hr ?_; (case hd => rfl); (case hg => rfl); (case hr => first | (go_simp; done) | (go_simp; rfl)); intro gb1 hg W1 hbox hb; have nn : w.heap.size ≤ gb1 := Nat.le_trans HT.out (Nat.le_of_eq hg.symm); have GE1 := Aside0.mk (Nat.le_trans (below_size HB.out) (Nat.le_of_eq hg.symm)); replace HB := Aside0.mk (below_step HB.out hb); replace HT := Aside0.mk (Nat.le_trans HT.out hb.size); have BK1 := Aside0.mk hbox; replace HT := Aside0.mk (Nat.succ_le_of_lt (blk_lt hbox)); replace HN := Aside0.mk (And.intro nn HN.out); clear hg hbox hb nn; have cz1_0 : W1.cell? ⟨gb1, 0, none⟩ = some (.int .i64 a0_0) := (blk_cell BK1.out 0).trans rfl; have cz1_1 : W1.cell? ⟨gb1, 1, none⟩ = some (.slice A0_1 l0_1.length c0_1) := (blk_cell BK1.out 1).trans rfl; have cz1_2 : W1.cell? ⟨gb1, 2, none⟩ = some (.int .i64 a0_2) := (blk_cell BK1.out 2).trans rfl) | ((with_reducible refine gate_dst (N := 19) rfl ?_); refine goesL_ (some 19) rfl rfl Try.func12 (by kernel_rfl) rfl #[.agg #[.int .i64 a0_0, .slice A0_1 l0_1.length c0_1, .int .i64 a0_2], .int .i64 1048576] rfl (by (try simp only [List.map_toArray, List.map_cons, List.map_nil]); first | done | rfl) ?_; (with_reducible refine (laws_szKeep.calls k a0_0 _ _ l0_1 a0_2 1048576 t2 _ (Kd.C_below HR0_1.out HB.out) HC0_1.out AQ1.out).mono ?_); rintro e W2 ⟨rfl, hb⟩; refine ⟨_, rfl, ?_⟩; replace BK1 := Aside0.mk (blk_below (g := gb1) (o := .cells #[.int .i64 a0_0, .slice A0_1 l0_1.length c0_1, .int .i64 a0_2] 24 (0, 0)) BK1.out hb); replace HB := Aside0.mk (below_step HB.out hb); replace HT := Aside0.mk (Nat.le_trans HT.out hb.size); clear hb; (try clear cz1_0 cz1_1 cz1_2)))
    go_ret
    exact ⟨by first | rfl | (simp; done) | (simp [*]; done), HB.out⟩
  rw [if_neg c75] at H
  have c75b0 : decide (t2 < 0) = false := decide_eq_false c75
  clear c75
  obtain ⟨t4, AQ3_, H⟩ := Option.bind_eq_some_iff.mp H
  have AQ3 := Aside0.mk AQ3_
  clear AQ3_
  (try dsimp only at AQ3 H)
  by_cases c76 : t4 < 0
  · rw [if_pos c76] at H
    have c76b0 : decide (t4 < 0) = true := decide_eq_true c76
    clear c76
    obtain rfl := Option.some.inj H
    go_enter Try.func10, Try.ntmps10
    try go_wp2_with (first | ((with_reducible refine gate_dst (N := 2) rfl ?_); refine box_event ?hg (N := 2) ?hd (cs := #[.int .i64 a0_0, .slice A0_1 l0_1.length c0_1, .int .i64 a0_2]) (t := 24) ?hr ?_; (case hd => rfl); (case hg => rfl); (case hr => first | (go_simp; done) | (go_simp; rfl)); intro gb1 hg W3 hbox hb; have nn : w.heap.size ≤ gb1 := Nat.le_trans HT.out (Nat.le_of_eq hg.symm); have GE1 := Aside0.mk (Nat.le_trans (below_size HB.out) (Nat.le_of_eq hg.symm)); replace HB := Aside0.mk (below_step HB.out hb); replace HT := Aside0.mk (Nat.le_trans HT.out hb.size); have BK1 := Aside0.mk hbox; replace HT := Aside0.mk (Nat.succ_le_of_lt (blk_lt hbox)); replace HN := Aside0.mk (And.intro nn HN.out); clear hg hbox hb nn; have cz1_0 : W3.cell? ⟨gb1, 0, none⟩ = some (.int .i64 a0_0) := (blk_cell BK1.out 0).trans rfl; have cz1_1 : W3.cell? ⟨gb1, 1, none⟩ = some (.slice A0_1 l0_1.length c0_1) := (blk_cell BK1.out 1).trans rfl; have cz1_2 : W3.cell? ⟨gb1, 2, none⟩ = some (.int .i64 a0_2) := (blk_cell BK1.out 2).trans rfl) | ((with_reducible refine gate_dst (N := 19) rfl ?_); refine goesL_ (some 19) rfl rfl Try.func12 (by kernel_rfl) rfl #[.agg #[.int .i64 a0_0, .slice A0_1 l0_1.length c0_1, .int .i64 a0_2], .int .i64 1048576] rfl (by (try simp only [List.map_toArray, List.map_cons, List.map_nil]); first | done | rfl) ?_; (with_reducible refine (laws_szKeep.calls k a0_0 _ _ l0_1 a0_2 1048576 t2 _ (Kd.C_below HR0_1.out HB.out) HC0_1.out AQ1.out).mono ?_); rintro e W4 ⟨rfl, hb⟩; refine ⟨_, rfl, ?_⟩; replace BK1 := Aside0.mk (blk_below (g := gb1) (o := .cells #[.int .i64 a0_0, .slice A0_1 l0_1.length c0_1, .int .i64 a0_2] 24 (0, 0)) BK1.out hb); replace HB := Aside0.mk (below_step HB.out hb); replace HT := Aside0.mk (Nat.le_trans HT.out hb.size); clear hb; (try clear cz1_0 cz1_1 cz1_2)) | ((with_reducible refine gate_dst (N := 24) rfl ?_); refine goesL_ (some 24) rfl rfl Try.func41 (by kernel_rfl) rfl #[.slice A1 l1.length c1, .int .i64 t2] rfl (by (try simp only [List.map_toArray, List.map_cons, List.map_nil]); first | done | rfl) ?_; (with_reducible refine (laws_szIntSS.calls k _ _ l1 t2 t4 _ (Kd.C_below HR1.out HB.out) HC1.out AQ3.out).mono ?_); rintro e W5 ⟨rfl, hd⟩; have hb := hd.below; clear hd; refine ⟨_, rfl, ?_⟩; replace BK1 := Aside0.mk (blk_below (g := gb1) (o := .cells #[.int .i64 a0_0, .slice A0_1 l0_1.length c0_1, .int .i64 a0_2] 24 (0, 0)) BK1.out hb); replace HB := Aside0.mk (below_step HB.out hb); replace HT := Aside0.mk (Nat.le_trans HT.out hb.size); clear hb))
    go_ret
    exact ⟨by first | rfl | (simp; done) | (simp [*]; done), HB.out⟩
  rw [if_neg c76] at H
  have c76b0 : decide (t4 < 0) = false := decide_eq_false c76
  clear c76
  obtain ⟨⟨t6, t7, t8⟩, AQ5_, H⟩ := Option.bind_eq_some_iff.mp H
  have AQ5 := Aside0.mk AQ5_
  clear AQ5_
  (try dsimp only at AQ5 H)
  obtain ⟨t11, AQ10_, H⟩ := Option.bind_eq_some_iff.mp H
  have AQ10 := Aside0.mk AQ10_
  clear AQ10_
  (try dsimp only at AQ10 H)
  obtain ⟨⟨t14, t15, t16⟩, AQ13_, H⟩ := Option.bind_eq_some_iff.mp H
  have AQ13 := Aside0.mk AQ13_
  clear AQ13_
  (try dsimp only at AQ13 H)
  obtain ⟨⟨t19, t20, t21⟩, AQ18_, H⟩ := Option.bind_eq_some_iff.mp H
  have AQ18 := Aside0.mk AQ18_
  clear AQ18_
  (try dsimp only at AQ18 H)
  obtain ⟨t24, AQ23_, H⟩ := Option.bind_eq_some_iff.mp H
  have AQ23 := Aside0.mk AQ23_
  clear AQ23_
  (try dsimp only at AQ23 H)
  obtain ⟨⟨t27, t28, t29⟩, AQ26_, H⟩ := Option.bind_eq_some_iff.mp H
  have AQ26 := Aside0.mk AQ26_
  clear AQ26_
  (try dsimp only at AQ26 H)
  obtain ⟨t32, AQ31_, H⟩ := Option.bind_eq_some_iff.mp H
  have AQ31 := Aside0.mk AQ31_
  clear AQ31_
  (try dsimp only at AQ31 H)
  rcases t32 with _ | _
  · rw [if_neg (by decide)] at H; cases H
  rw [if_pos rfl] at H
  by_cases c77 : (t29 != t16) = true
  · rw [if_pos c77] at H; cases H
  rw [if_neg c77] at H
  have c77b0 : (t29 != t16) = false := by simpa using c77
  have c77b1 : decide (t29 = t16) = true := by simpa using c77
  have c77b2 : (t29 == t16) = true := by simpa using c77
  clear c77
  obtain ⟨⟨t34, t35, t36⟩, AQ33_, H⟩ := Option.bind_eq_some_iff.mp H
  have AQ33 := Aside0.mk AQ33_
  clear AQ33_
  (try dsimp only at AQ33 H)
  obtain ⟨t39, AQ38_, H⟩ := Option.bind_eq_some_iff.mp H
  have AQ38 := Aside0.mk AQ38_
  clear AQ38_
  (try dsimp only at AQ38 H)
  rcases t39 with _ | _
  · rw [if_neg (by decide)] at H; cases H
  rw [if_pos rfl] at H
  obtain ⟨t41, AQ40_, H⟩ := Option.bind_eq_some_iff.mp H
  have AQ40 := Aside0.mk AQ40_
  clear AQ40_
  (try dsimp only at AQ40 H)
  obtain ⟨t44, AQ43_, H⟩ := Option.bind_eq_some_iff.mp H
  have AQ43 := Aside0.mk AQ43_
  clear AQ43_
  (try dsimp only at AQ43 H)
  rcases t44 with _ | _
  · rw [if_neg (by decide)] at H; cases H
  rw [if_pos rfl] at H
  obtain ⟨⟨t46, t47⟩, AQ45_, H⟩ := Option.bind_eq_some_iff.mp H
  have AQ45 := Aside0.mk AQ45_
  clear AQ45_
  (try dsimp only at AQ45 H)
  obtain ⟨⟨t49, t50⟩, AQ48_, H⟩ := Option.bind_eq_some_iff.mp H
  have AQ48 := Aside0.mk AQ48_
  clear AQ48_
  (try dsimp only at AQ48 H)
  obtain ⟨t52, AQ51_, H⟩ := Option.bind_eq_some_iff.mp H
  have AQ51 := Aside0.mk AQ51_
  clear AQ51_
  (try dsimp only at AQ51 H)
  by_cases c78 : t49 < 0
  · rw [if_pos c78] at H; cases H
  rw [if_neg c78] at H
  have c78b0 : decide (t49 < 0) = false := decide_eq_false c78
  clear c78
  rcases t52 with _ | _
  · rw [if_neg (by decide)] at H; cases H
  rw [if_pos rfl] at H
  by_cases c79 : (t29 != t16) = true
  · rw [if_pos c79] at H; cases H
  rw [if_neg c79] at H
  have c79b0 : (t29 != t16) = false := by simpa using c79
  have c79b1 : decide (t29 = t16) = true := by simpa using c79
  have c79b2 : (t29 == t16) = true := by simpa using c79
  clear c79
  obtain ⟨⟨t54, t55⟩, AQ53_, H⟩ := Option.bind_eq_some_iff.mp H
  have AQ53 := Aside0.mk AQ53_
  clear AQ53_
  (try dsimp only at AQ53 H)
  obtain ⟨t57, AQ56_, H⟩ := Option.bind_eq_some_iff.mp H
  have AQ56 := Aside0.mk AQ56_
  clear AQ56_
  (try dsimp only at AQ56 H)
  by_cases c80 : t57 < 0
  · rw [if_pos c80] at H; cases H
  rw [if_neg c80] at H
  have c80b0 : decide (t57 < 0) = false := decide_eq_false c80
  clear c80
  by_cases c81 : t57 = t54
  rotate_left
  · rw [if_neg c81] at H; cases H
  rw [if_pos c81] at H
  have c81b0 : (t57 == t54) = true := beq_iff_eq.mpr c81
  have c81b1 : (t57 != t54) = false := bne_eq_false_iff_eq.mpr c81
  clear c81
  obtain ⟨⟨t59, t60, t61⟩, AQ58_, H⟩ := Option.bind_eq_some_iff.mp H
  have AQ58 := Aside0.mk AQ58_
  clear AQ58_
  (try dsimp only at AQ58 H)
  obtain ⟨t64, AQ63_, H⟩ := Option.bind_eq_some_iff.mp H
  have AQ63 := Aside0.mk AQ63_
  clear AQ63_
  (try dsimp only at AQ63 H)
  obtain ⟨⟨t67, t68, t69⟩, AQ66_, H⟩ := Option.bind_eq_some_iff.mp H
  have AQ66 := Aside0.mk AQ66_
  clear AQ66_
  (try dsimp only at AQ66 H)
  obtain ⟨t72, AQ71_, H⟩ := Option.bind_eq_some_iff.mp H
  have AQ71 := Aside0.mk AQ71_
  clear AQ71_
  (try dsimp only at AQ71 H)
  rcases t72 with _ | _
  · rw [if_neg (by decide)] at H; cases H
  rw [if_pos rfl] at H
  by_cases c82 : (t69 != t16) = true
  · rw [if_pos c82] at H; cases H
  rw [if_neg c82] at H
  have c82b0 : (t69 != t16) = false := by simpa using c82
  have c82b1 : decide (t69 = t16) = true := by simpa using c82
  have c82b2 : (t69 == t16) = true := by simpa using c82
  clear c82
  obtain ⟨t74, AQ73_, H⟩ := Option.bind_eq_some_iff.mp H
  have AQ73 := Aside0.mk AQ73_
  clear AQ73_
  (try dsimp only at AQ73 H)
  by_cases c83 : t74 < 0
  · rw [if_pos c83] at H; cases H
  rw [if_neg c83] at H
  have c83b0 : decide (t74 < 0) = false := decide_eq_false c83
  clear c83
  by_cases c84 : t74 = t54
  rotate_left
  · rw [if_neg c84] at H; cases H
  rw [if_pos c84] at H
  have c84b0 : (t74 == t54) = true := beq_iff_eq.mpr c84
  have c84b1 : (t74 != t54) = false := bne_eq_false_iff_eq.mpr c84
  clear c84
  obtain rfl := Option.some.inj H
  clear H
  go_enter Try.func10, Try.ntmps10
  try go_wp2_with (first | ((with_reducible refine gate_dst (N := 2) rfl ?_); refine box_event ?hg (N := 2) ?hd (cs := #[.int .i64 a0_0, .slice A0_1 l0_1.length c0_1, .int .i64 a0_2]) (t := 24) ?hr ?_; (case hd => rfl); (case hg => rfl); (case hr => first | (go_simp; done) | (go_simp; rfl)); intro gb1 hg W6 hbox hb; have nn : w.heap.size ≤ gb1 := Nat.le_trans HT.out (Nat.le_of_eq hg.symm); have GE1 := Aside0.mk (Nat.le_trans (below_size HB.out) (Nat.le_of_eq hg.symm)); replace HB := Aside0.mk (below_step HB.out hb); replace HT := Aside0.mk (Nat.le_trans HT.out hb.size); have BK1 := Aside0.mk hbox; replace HT := Aside0.mk (Nat.succ_le_of_lt (blk_lt hbox)); replace HN := Aside0.mk (And.intro nn HN.out); clear hg hbox hb nn; have cz1_0 : W6.cell? ⟨gb1, 0, none⟩ = some (.int .i64 a0_0) := (blk_cell BK1.out 0).trans rfl; have cz1_1 : W6.cell? ⟨gb1, 1, none⟩ = some (.slice A0_1 l0_1.length c0_1) := (blk_cell BK1.out 1).trans rfl; have cz1_2 : W6.cell? ⟨gb1, 2, none⟩ = some (.int .i64 a0_2) := (blk_cell BK1.out 2).trans rfl) | ((with_reducible refine gate_dst (N := 19) rfl ?_); refine goesL_ (some 19) rfl rfl Try.func12 (by kernel_rfl) rfl #[.agg #[.int .i64 a0_0, .slice A0_1 l0_1.length c0_1, .int .i64 a0_2], .int .i64 1048576] rfl (by (try simp only [List.map_toArray, List.map_cons, List.map_nil]); first | done | rfl) ?_; (with_reducible refine (laws_szKeep.calls k a0_0 _ _ l0_1 a0_2 1048576 t2 _ (Kd.C_below HR0_1.out HB.out) HC0_1.out AQ1.out).mono ?_); rintro e W7 ⟨rfl, hb⟩; refine ⟨_, rfl, ?_⟩; replace BK1 := Aside0.mk (blk_below (g := gb1) (o := .cells #[.int .i64 a0_0, .slice A0_1 l0_1.length c0_1, .int .i64 a0_2] 24 (0, 0)) BK1.out hb); replace HB := Aside0.mk (below_step HB.out hb); replace HT := Aside0.mk (Nat.le_trans HT.out hb.size); clear hb; (try clear cz1_0 cz1_1 cz1_2)) | ((with_reducible refine gate_dst (N := 24) rfl ?_); refine goesL_ (some 24) rfl rfl Try.func41 (by kernel_rfl) rfl #[.slice A1 l1.length c1, .int .i64 t2] rfl (by (try simp only [List.map_toArray, List.map_cons, List.map_nil]); first | done | rfl) ?_; (with_reducible refine (laws_szIntSS.calls k _ _ l1 t2 t4 _ (Kd.C_below HR1.out HB.out) HC1.out AQ3.out).mono ?_); rintro e W8 ⟨rfl, hd⟩; have hb := hd.below; clear hd; refine ⟨_, rfl, ?_⟩; replace BK1 := Aside0.mk (blk_below (g := gb1) (o := .cells #[.int .i64 a0_0, .slice A0_1 l0_1.length c0_1, .int .i64 a0_2] 24 (0, 0)) BK1.out hb); replace HB := Aside0.mk (below_step HB.out hb); replace HT := Aside0.mk (Nat.le_trans HT.out hb.size); clear hb; have cz1_0 : W8.cell? ⟨gb1, 0, none⟩ = some (.int .i64 a0_0) := (blk_cell BK1.out 0).trans rfl; have cz1_1 : W8.cell? ⟨gb1, 1, none⟩ = some (.slice A0_1 l0_1.length c0_1) := (blk_cell BK1.out 1).trans rfl; have cz1_2 : W8.cell? ⟨gb1, 2, none⟩ = some (.int .i64 a0_2) := (blk_cell BK1.out 2).trans rfl) | ((with_reducible refine gate_dst (N := 29) rfl ?_); refine goesL_ (some 29) rfl rfl Try.func14 (by kernel_rfl) rfl #[.agg #[.int .i64 a0_0, .slice A0_1 l0_1.length c0_1, .int .i64 a0_2]] rfl (by (try simp only [List.map_toArray, List.map_cons, List.map_nil]); first | done | rfl) ?_; (with_reducible refine (laws_toKeep.calls k a0_0 _ _ l0_1 a0_2 t6 t7 t8 _ (Kd.C_below HR0_1.out HB.out) HC0_1.out AQ5.out).mono ?_); rintro e W9 ⟨v9, rfl, ho9, hb⟩; refine ⟨_, rfl, ?_⟩; obtain ⟨B9, d9, e_⟩ := Kd.S_slice ho9; subst e_; obtain ⟨lo9, hi9, nn, ht_, hO9⟩ := laws_FnExactPlayRides.newS ho9 HT.out (below_size HB.out) hb.size; replace BK1 := Aside0.mk (blk_below (g := gb1) (o := .cells #[.int .i64 a0_0, .slice A0_1 l0_1.length c0_1, .int .i64 a0_2] 24 (0, 0)) BK1.out hb); replace HB := Aside0.mk (below_step HB.out hb); replace HT := Aside0.mk (Nat.le_trans HT.out hb.size); have HO9 := Aside0.mk hO9; replace HT := Aside0.mk ht_; replace HN := Aside0.mk (And.intro nn HN.out); clear ho9 hO9 nn ht_; clear hb; (try clear cz1_0 cz1_1 cz1_2)) | ((with_reducible refine gate_dst (N := 31) rfl ?_); refine goesL_ (some 31) rfl rfl Try.func43 (by kernel_rfl) rfl #[.slice A1 l1.length c1] rfl (by (try simp only [List.map_toArray, List.map_cons, List.map_nil]); first | done | rfl) ?_; (with_reducible refine (laws_toIntSS.calls k _ _ l1 t11 _ (Kd.C_below HR1.out HB.out) HC1.out AQ10.out).mono ?_); rintro e W10 ⟨v12, rfl, ho12, hb⟩; refine ⟨_, rfl, ?_⟩; obtain ⟨B12, d12, e_⟩ := Kd.S_slice ho12; subst e_; obtain ⟨lo12, hi12, nn, ht_, hO12⟩ := laws_FnExactPlayRides.newS ho12 HT.out (below_size HB.out) hb.size; replace HO9 := Aside0.mk (Kd.S_below HO9.out hb); replace BK1 := Aside0.mk (blk_below (g := gb1) (o := .cells #[.int .i64 a0_0, .slice A0_1 l0_1.length c0_1, .int .i64 a0_2] 24 (0, 0)) BK1.out hb); replace HB := Aside0.mk (below_step HB.out hb); replace HT := Aside0.mk (Nat.le_trans HT.out hb.size); have HO12 := Aside0.mk hO12; replace HT := Aside0.mk ht_; replace HN := Aside0.mk (And.intro nn HN.out); clear ho12 hO12 nn ht_; clear hb) | ((with_reducible refine gate_dst (N := 32) rfl ?_); refine goesL_ (some 32) rfl rfl Try.func42 (by kernel_rfl) rfl #[.agg #[.int .i64 t6, .slice B9 t7.length d9, .int .i64 t8], .slice B12 t11.length d12] rfl (by (try simp only [List.map_toArray, List.map_cons, List.map_nil]); first | done | rfl) ?_; (with_reducible refine (spec_PlayRides.calls k t6 _ _ t7 t8 _ _ t11 t14 t15 t16 _ (Kd.R_reads' (Kd.S_R HO9.out)).2.2 (Kd.R_reads' (Kd.S_R HO9.out)).2.1 (Kd.R_reads' (Kd.S_R HO12.out)).2.2 (Kd.R_reads' (Kd.S_R HO12.out)).2.1 AQ13.out).mono ?_); rintro e W11 ⟨v17, rfl, ho17, hb⟩; refine ⟨_, rfl, ?_⟩; obtain ⟨B17, d17, e_⟩ := Kd.R_slice ho17; subst e_; obtain ⟨lo17, hi17, nn, ht_, hO17⟩ := laws_FnExactPlayRides.newR ho17 HT.out (below_size HB.out) hb.size; replace HO9 := Aside0.mk (Kd.S_below HO9.out hb); replace HO12 := Aside0.mk (Kd.S_below HO12.out hb); replace BK1 := Aside0.mk (blk_below (g := gb1) (o := .cells #[.int .i64 a0_0, .slice A0_1 l0_1.length c0_1, .int .i64 a0_2] 24 (0, 0)) BK1.out hb); replace HB := Aside0.mk (below_step HB.out hb); replace HT := Aside0.mk (Nat.le_trans HT.out hb.size); have HO17 := Aside0.mk hO17; replace HT := Aside0.mk ht_; replace HN := Aside0.mk (And.intro nn HN.out); clear ho17 hO17 nn ht_; clear hb; clear HO9 HO12) | ((with_reducible refine gate_dst (N := 6) rfl ?_); refine box_event ?hg (N := 6) ?hd (cs := #[.slice none 0 0, .bool false]) (t := 39) ?hr ?_; (case hd => rfl); (case hg => rfl); (case hr => first | (go_simp; done) | (go_simp; rfl)); intro gb2 hg W12 hbox hb; have nn : hi17 ≤ gb2 := Nat.le_trans HT.out (Nat.le_of_eq hg.symm); have GE2 := Aside0.mk (Nat.le_trans (below_size HB.out) (Nat.le_of_eq hg.symm)); replace HO17 := Aside0.mk (Kd.R_below HO17.out hb); replace BK1 := Aside0.mk (blk_below (g := gb1) (o := .cells #[.int .i64 a0_0, .slice A0_1 l0_1.length c0_1, .int .i64 a0_2] 24 (0, 0)) BK1.out hb); replace HB := Aside0.mk (below_step HB.out hb); replace HT := Aside0.mk (Nat.le_trans HT.out hb.size); have BK2 := Aside0.mk hbox; replace HT := Aside0.mk (Nat.succ_le_of_lt (blk_lt hbox)); replace HN := Aside0.mk (And.intro nn HN.out); clear hg hbox hb nn) | ((with_reducible refine gate_store (t := 39) (p := 6) rfl ?_); refine laws_FnExactPlayRides.store rfl rfl rfl gb2 39 #[.slice none 0 0, .bool false] (.agg #[.slice B17 t14.length d17, .bool t15]) [.slice B17 t14.length d17, .bool t15] rfl rfl BK2.out rfl (by kernel_rfl) rfl (by intro q_ hq_; simp only [List.mem_cons, List.not_mem_nil, or_false] at hq_; rcases hq_ with rfl | rfl <;> rfl) ?_; intro W13 hbx hg; replace HO17 := Aside0.mk (laws_FnExactPlayRides.grownR HO17.out hg (by have hn_ := HN.out; omega)); replace BK1 := Aside0.mk (laws_FnExactPlayRides.grownB BK1.out hg (by have hn_ := HN.out; omega)); replace HB := Aside0.mk (Below.grown HB.out hg (below_size HB.out) (fun k_ hk_ => by injection hk_ with hk_; subst hk_; exact GE2.out)); replace HT := Aside0.mk (Nat.le_trans HT.out hg.size); replace BK2 := Aside0.mk hbx; clear hbx hg; have cz1_0 : W13.cell? ⟨gb1, 0, none⟩ = some (.int .i64 a0_0) := (blk_cell BK1.out 0).trans rfl; have cz1_1 : W13.cell? ⟨gb1, 1, none⟩ = some (.slice A0_1 l0_1.length c0_1) := (blk_cell BK1.out 1).trans rfl; have cz1_2 : W13.cell? ⟨gb1, 2, none⟩ = some (.int .i64 a0_2) := (blk_cell BK1.out 2).trans rfl) | ((with_reducible refine gate_dst (N := 36) rfl ?_); refine goesL_ (some 36) rfl rfl Try.func14 (by kernel_rfl) rfl #[.agg #[.int .i64 a0_0, .slice A0_1 l0_1.length c0_1, .int .i64 a0_2]] rfl (by (try simp only [List.map_toArray, List.map_cons, List.map_nil]); first | done | rfl) ?_; (with_reducible refine (laws_toKeep.calls k a0_0 _ _ l0_1 a0_2 t19 t20 t21 _ (Kd.C_below HR0_1.out HB.out) HC0_1.out AQ18.out).mono ?_); rintro e W14 ⟨v22, rfl, ho22, hb⟩; refine ⟨_, rfl, ?_⟩; obtain ⟨B22, d22, e_⟩ := Kd.S_slice ho22; subst e_; obtain ⟨lo22, hi22, nn, ht_, hO22⟩ := laws_FnExactPlayRides.newS ho22 HT.out (below_size HB.out) hb.size; replace HO17 := Aside0.mk (Kd.R_below HO17.out hb); replace BK1 := Aside0.mk (blk_below (g := gb1) (o := .cells #[.int .i64 a0_0, .slice A0_1 l0_1.length c0_1, .int .i64 a0_2] 24 (0, 0)) BK1.out hb); replace BK2 := Aside0.mk (blk_below (g := gb2) (o := .cells #[.slice B17 t14.length d17, .bool t15] 39 (0, 0)) BK2.out hb); replace HB := Aside0.mk (below_step HB.out hb); replace HT := Aside0.mk (Nat.le_trans HT.out hb.size); have HO22 := Aside0.mk hO22; replace HT := Aside0.mk ht_; replace HN := Aside0.mk (And.intro nn HN.out); clear ho22 hO22 nn ht_; clear hb; (try clear cz1_0 cz1_1 cz1_2)) | ((with_reducible refine gate_dst (N := 8) rfl ?_); refine box_event ?hg (N := 8) ?hd (cs := #[.int .i64 0, .slice none 0 0, .int .i64 0]) (t := 27) ?hr ?_; (case hd => rfl); (case hg => rfl); (case hr => first | (go_simp; done) | (go_simp; rfl)); intro gb3 hg W15 hbox hb; have nn : hi22 ≤ gb3 := Nat.le_trans HT.out (Nat.le_of_eq hg.symm); have GE3 := Aside0.mk (Nat.le_trans (below_size HB.out) (Nat.le_of_eq hg.symm)); replace HO17 := Aside0.mk (Kd.R_below HO17.out hb); replace HO22 := Aside0.mk (Kd.S_below HO22.out hb); replace BK1 := Aside0.mk (blk_below (g := gb1) (o := .cells #[.int .i64 a0_0, .slice A0_1 l0_1.length c0_1, .int .i64 a0_2] 24 (0, 0)) BK1.out hb); replace BK2 := Aside0.mk (blk_below (g := gb2) (o := .cells #[.slice B17 t14.length d17, .bool t15] 39 (0, 0)) BK2.out hb); replace HB := Aside0.mk (below_step HB.out hb); replace HT := Aside0.mk (Nat.le_trans HT.out hb.size); have BK3 := Aside0.mk hbox; replace HT := Aside0.mk (Nat.succ_le_of_lt (blk_lt hbox)); replace HN := Aside0.mk (And.intro nn HN.out); clear hg hbox hb nn) | ((with_reducible refine gate_store (t := 27) (p := 8) rfl ?_); refine laws_FnExactPlayRides.store rfl rfl rfl gb3 27 #[.int .i64 0, .slice none 0 0, .int .i64 0] (.agg #[.int .i64 t19, .slice B22 t20.length d22, .int .i64 t21]) [.int .i64 t19, .slice B22 t20.length d22, .int .i64 t21] rfl rfl BK3.out rfl (by kernel_rfl) rfl (by intro q_ hq_; simp only [List.mem_cons, List.not_mem_nil, or_false] at hq_; rcases hq_ with rfl | rfl | rfl <;> rfl) ?_; intro W16 hbx hg; replace HO17 := Aside0.mk (laws_FnExactPlayRides.grownR HO17.out hg (by have hn_ := HN.out; omega)); replace HO22 := Aside0.mk (laws_FnExactPlayRides.grownS HO22.out hg (by have hn_ := HN.out; omega)); replace BK1 := Aside0.mk (laws_FnExactPlayRides.grownB BK1.out hg (by have hn_ := HN.out; omega)); replace BK2 := Aside0.mk (laws_FnExactPlayRides.grownB BK2.out hg (by have hn_ := HN.out; omega)); replace HB := Aside0.mk (Below.grown HB.out hg (below_size HB.out) (fun k_ hk_ => by injection hk_ with hk_; subst hk_; exact GE3.out)); replace HT := Aside0.mk (Nat.le_trans HT.out hg.size); replace BK3 := Aside0.mk hbx; clear hbx hg) | ((with_reducible refine gate_dst (N := 38) rfl ?_); refine goesL_ (some 38) rfl rfl Try.func43 (by kernel_rfl) rfl #[.slice A1 l1.length c1] rfl (by (try simp only [List.map_toArray, List.map_cons, List.map_nil]); first | done | rfl) ?_; (with_reducible refine (laws_toIntSS.calls k _ _ l1 t24 _ (Kd.C_below HR1.out HB.out) HC1.out AQ23.out).mono ?_); rintro e W17 ⟨v25, rfl, ho25, hb⟩; refine ⟨_, rfl, ?_⟩; obtain ⟨B25, d25, e_⟩ := Kd.S_slice ho25; subst e_; obtain ⟨lo25, hi25, nn, ht_, hO25⟩ := laws_FnExactPlayRides.newS ho25 HT.out (below_size HB.out) hb.size; replace HO17 := Aside0.mk (Kd.R_below HO17.out hb); replace HO22 := Aside0.mk (Kd.S_below HO22.out hb); replace BK1 := Aside0.mk (blk_below (g := gb1) (o := .cells #[.int .i64 a0_0, .slice A0_1 l0_1.length c0_1, .int .i64 a0_2] 24 (0, 0)) BK1.out hb); replace BK2 := Aside0.mk (blk_below (g := gb2) (o := .cells #[.slice B17 t14.length d17, .bool t15] 39 (0, 0)) BK2.out hb); replace BK3 := Aside0.mk (blk_below (g := gb3) (o := .cells #[.int .i64 t19, .slice B22 t20.length d22, .int .i64 t21] 27 (0, 0)) BK3.out hb); replace HB := Aside0.mk (below_step HB.out hb); replace HT := Aside0.mk (Nat.le_trans HT.out hb.size); have HO25 := Aside0.mk hO25; replace HT := Aside0.mk ht_; replace HN := Aside0.mk (And.intro nn HN.out); clear ho25 hO25 nn ht_; clear hb; have cz3_0 : W17.cell? ⟨gb3, 0, none⟩ = some (.int .i64 t19) := (blk_cell BK3.out 0).trans rfl; have cz3_1 : W17.cell? ⟨gb3, 1, none⟩ = some (.slice B22 t20.length d22) := (blk_cell BK3.out 1).trans rfl; have cz3_2 : W17.cell? ⟨gb3, 2, none⟩ = some (.int .i64 t21) := (blk_cell BK3.out 2).trans rfl) | ((with_reducible refine gate_dst (N := 42) rfl ?_); refine goesL_ (some 42) rfl rfl Try.func44 (by kernel_rfl) rfl #[.agg #[.int .i64 t19, .slice B22 t20.length d22, .int .i64 t21], .slice B25 t24.length d25] rfl (by (try simp only [List.map_toArray, List.map_cons, List.map_nil]); first | done | rfl) ?_; (with_reducible refine (impl_PlayRides.calls k t19 _ _ t20 t21 _ _ t24 t27 t28 t29 _ (Kd.R_reads' (Kd.S_R HO22.out)).2.2 (Kd.R_reads' (Kd.S_R HO22.out)).2.1 (Kd.R_reads' (Kd.S_R HO25.out)).2.2 (Kd.R_reads' (Kd.S_R HO25.out)).2.1 AQ26.out).mono ?_); rintro e W18 ⟨v30, rfl, ho30, hb⟩; refine ⟨_, rfl, ?_⟩; obtain ⟨B30, d30, e_⟩ := Kd.R_slice ho30; subst e_; obtain ⟨lo30, hi30, nn, ht_, hO30⟩ := laws_FnExactPlayRides.newR ho30 HT.out (below_size HB.out) hb.size; replace HO17 := Aside0.mk (Kd.R_below HO17.out hb); replace HO22 := Aside0.mk (Kd.S_below HO22.out hb); replace HO25 := Aside0.mk (Kd.S_below HO25.out hb); replace BK1 := Aside0.mk (blk_below (g := gb1) (o := .cells #[.int .i64 a0_0, .slice A0_1 l0_1.length c0_1, .int .i64 a0_2] 24 (0, 0)) BK1.out hb); replace BK2 := Aside0.mk (blk_below (g := gb2) (o := .cells #[.slice B17 t14.length d17, .bool t15] 39 (0, 0)) BK2.out hb); replace BK3 := Aside0.mk (blk_below (g := gb3) (o := .cells #[.int .i64 t19, .slice B22 t20.length d22, .int .i64 t21] 27 (0, 0)) BK3.out hb); replace HB := Aside0.mk (below_step HB.out hb); replace HT := Aside0.mk (Nat.le_trans HT.out hb.size); have HO30 := Aside0.mk hO30; replace HT := Aside0.mk ht_; replace HN := Aside0.mk (And.intro nn HN.out); clear ho30 hO30 nn ht_; clear hb; (try clear cz3_0 cz3_1 cz3_2)) | ((with_reducible refine gate_dst (N := 10) rfl ?_); refine box_event ?hg (N := 10) ?hd (cs := #[.slice none 0 0, .bool false]) (t := 39) ?hr ?_; (case hd => rfl); (case hg => rfl); (case hr => first | (go_simp; done) | (go_simp; rfl)); intro gb4 hg W19 hbox hb; have nn : hi30 ≤ gb4 := Nat.le_trans HT.out (Nat.le_of_eq hg.symm); have GE4 := Aside0.mk (Nat.le_trans (below_size HB.out) (Nat.le_of_eq hg.symm)); replace HO17 := Aside0.mk (Kd.R_below HO17.out hb); replace HO22 := Aside0.mk (Kd.S_below HO22.out hb); replace HO25 := Aside0.mk (Kd.S_below HO25.out hb); replace HO30 := Aside0.mk (Kd.R_below HO30.out hb); replace BK1 := Aside0.mk (blk_below (g := gb1) (o := .cells #[.int .i64 a0_0, .slice A0_1 l0_1.length c0_1, .int .i64 a0_2] 24 (0, 0)) BK1.out hb); replace BK2 := Aside0.mk (blk_below (g := gb2) (o := .cells #[.slice B17 t14.length d17, .bool t15] 39 (0, 0)) BK2.out hb); replace BK3 := Aside0.mk (blk_below (g := gb3) (o := .cells #[.int .i64 t19, .slice B22 t20.length d22, .int .i64 t21] 27 (0, 0)) BK3.out hb); replace HB := Aside0.mk (below_step HB.out hb); replace HT := Aside0.mk (Nat.le_trans HT.out hb.size); have BK4 := Aside0.mk hbox; replace HT := Aside0.mk (Nat.succ_le_of_lt (blk_lt hbox)); replace HN := Aside0.mk (And.intro nn HN.out); clear hg hbox hb nn) | ((with_reducible refine gate_store (t := 39) (p := 10) rfl ?_); refine laws_FnExactPlayRides.store rfl rfl rfl gb4 39 #[.slice none 0 0, .bool false] (.agg #[.slice B30 t27.length d30, .bool t28]) [.slice B30 t27.length d30, .bool t28] rfl rfl BK4.out rfl (by kernel_rfl) rfl (by intro q_ hq_; simp only [List.mem_cons, List.not_mem_nil, or_false] at hq_; rcases hq_ with rfl | rfl <;> rfl) ?_; intro W20 hbx hg; replace HO17 := Aside0.mk (laws_FnExactPlayRides.grownR HO17.out hg (by have hn_ := HN.out; omega)); replace HO22 := Aside0.mk (laws_FnExactPlayRides.grownS HO22.out hg (by have hn_ := HN.out; omega)); replace HO25 := Aside0.mk (laws_FnExactPlayRides.grownS HO25.out hg (by have hn_ := HN.out; omega)); replace HO30 := Aside0.mk (laws_FnExactPlayRides.grownR HO30.out hg (by have hn_ := HN.out; omega)); replace BK1 := Aside0.mk (laws_FnExactPlayRides.grownB BK1.out hg (by have hn_ := HN.out; omega)); replace BK2 := Aside0.mk (laws_FnExactPlayRides.grownB BK2.out hg (by have hn_ := HN.out; omega)); replace BK3 := Aside0.mk (laws_FnExactPlayRides.grownB BK3.out hg (by have hn_ := HN.out; omega)); replace HB := Aside0.mk (Below.grown HB.out hg (below_size HB.out) (fun k_ hk_ => by injection hk_ with hk_; subst hk_; exact GE4.out)); replace HT := Aside0.mk (Nat.le_trans HT.out hg.size); replace BK4 := Aside0.mk hbx; clear hbx hg; have cz4_0 : W20.cell? ⟨gb4, 0, none⟩ = some (.slice B30 t27.length d30) := (blk_cell BK4.out 0).trans rfl; have cz4_1 : W20.cell? ⟨gb4, 1, none⟩ = some (.bool t28) := (blk_cell BK4.out 1).trans rfl; have cz2_0 : W20.cell? ⟨gb2, 0, none⟩ = some (.slice B17 t14.length d17) := (blk_cell BK2.out 0).trans rfl; have cz2_1 : W20.cell? ⟨gb2, 1, none⟩ = some (.bool t15) := (blk_cell BK2.out 1).trans rfl) | ((with_reducible refine gate_dst (N := 47) rfl ?_); refine goesL_ (some 47) rfl rfl Try.func23 (by kernel_rfl) rfl #[.agg #[.slice B30 t27.length d30, .bool t28], .agg #[.slice B17 t14.length d17, .bool t15]] rfl (by (try simp only [List.map_toArray, List.map_cons, List.map_nil]); first | done | rfl) ?_; (with_reducible refine (laws_eqBank.calls k _ _ t27 t28 _ _ t14 t15 true _ (Kd.R_reads' HO30.out).2.2 (Kd.R_reads' HO30.out).2.1 (Kd.R_reads' HO17.out).2.2 (Kd.R_reads' HO17.out).2.1 AQ31.out).mono ?_); rintro e W21 ⟨rfl, hb⟩; refine ⟨_, rfl, ?_⟩; replace HO17 := Aside0.mk (Kd.R_below HO17.out hb); replace HO22 := Aside0.mk (Kd.S_below HO22.out hb); replace HO25 := Aside0.mk (Kd.S_below HO25.out hb); replace HO30 := Aside0.mk (Kd.R_below HO30.out hb); replace BK1 := Aside0.mk (blk_below (g := gb1) (o := .cells #[.int .i64 a0_0, .slice A0_1 l0_1.length c0_1, .int .i64 a0_2] 24 (0, 0)) BK1.out hb); replace BK2 := Aside0.mk (blk_below (g := gb2) (o := .cells #[.slice B17 t14.length d17, .bool t15] 39 (0, 0)) BK2.out hb); replace BK3 := Aside0.mk (blk_below (g := gb3) (o := .cells #[.int .i64 t19, .slice B22 t20.length d22, .int .i64 t21] 27 (0, 0)) BK3.out hb); replace BK4 := Aside0.mk (blk_below (g := gb4) (o := .cells #[.slice B30 t27.length d30, .bool t28] 39 (0, 0)) BK4.out hb); replace HB := Aside0.mk (below_step HB.out hb); replace HT := Aside0.mk (Nat.le_trans HT.out hb.size); clear hb; (try clear cz4_0 cz4_1 cz2_0 cz2_1)))
  have hb : Below W21.heap.size W21 W21.drew := below_drew (Below.refl _ _)
  replace HO17 := Aside0.mk (Kd.R_below HO17.out hb)
  replace HO22 := Aside0.mk (Kd.S_below HO22.out hb)
  replace HO25 := Aside0.mk (Kd.S_below HO25.out hb)
  replace HO30 := Aside0.mk (Kd.R_below HO30.out hb)
  replace BK1 := Aside0.mk (blk_below (g := gb1) (o := .cells #[.int .i64 a0_0, .slice A0_1 l0_1.length c0_1, .int .i64 a0_2] 24 (0, 0)) BK1.out hb)
  replace BK2 := Aside0.mk (blk_below (g := gb2) (o := .cells #[.slice B17 t14.length d17, .bool t15] 39 (0, 0)) BK2.out hb)
  replace BK3 := Aside0.mk (blk_below (g := gb3) (o := .cells #[.int .i64 t19, .slice B22 t20.length d22, .int .i64 t21] 27 (0, 0)) BK3.out hb)
  replace BK4 := Aside0.mk (blk_below (g := gb4) (o := .cells #[.slice B30 t27.length d30, .bool t28] 39 (0, 0)) BK4.out hb)
  replace HB := Aside0.mk (below_step HB.out hb)
  replace HT := Aside0.mk (Nat.le_trans HT.out hb.size)
  clear hb
  refine start_ (n := 5) (S := fun w' => w'.cell? ⟨gb3, 0, none⟩ = some (.int .i64 t19) ∧ w'.cell? ⟨gb3, 1, none⟩ = some (.slice B22 t20.length d22) ∧ w'.cell? ⟨gb3, 2, none⟩ = some (.int .i64 t21) ∧ w'.cell? ⟨gb1, 0, none⟩ = some (.int .i64 a0_0) ∧ w'.cell? ⟨gb1, 1, none⟩ = some (.slice A0_1 l0_1.length c0_1) ∧ w'.cell? ⟨gb1, 2, none⟩ = some (.int .i64 a0_2)) (ds := []) #[false, false, false, false, false] (by kernel_rfl) rfl rfl ⟨(blk_cell BK3.out 0).trans rfl, (blk_cell BK3.out 1).trans rfl, (blk_cell BK3.out 2).trans rfl, (blk_cell BK1.out 0).trans rfl, (blk_cell BK1.out 1).trans rfl, (blk_cell BK1.out 2).trans rfl⟩ (fun hHeld => ?_)
  generalize W21.drew = W22 at HO17 HO22 HO25 HO30 BK1 BK2 BK3 BK4 HB HT hHeld ⊢
  refine take_ (i := 0) (N := some 54) (v := ?_) (a' := ?_) #[true, false, false, false, false] rfl rfl (by kernel_rfl) (fun _ _ _ h => h) (Or.inl ⟨by rfl, ?_⟩) hHeld ?_ ?_
  rotate_left
  · rintro w' ⟨s0, s1, s2, s3, s4, s5⟩
    go_simp
    with_reducible rfl
  rotate_left
  · simp only [Act.put, List.setIfInBounds_toArray, List.set_cons_zero, List.set_cons_succ, i64_w, i32_w]
    rfl
  refine take_ (i := 1) (N := some 55) (v := ?_) (a' := ?_) #[true, true, false, false, false] rfl rfl (by kernel_rfl) (fun _ _ _ h => h) (Or.inl ⟨by rfl, ?_⟩) hHeld ?_ ?_
  rotate_left
  · rintro w' ⟨s0, s1, s2, s3, s4, s5⟩
    go_simp
    with_reducible rfl
  rotate_left
  · simp only [Act.put, List.setIfInBounds_toArray, List.set_cons_zero, List.set_cons_succ, i64_w, i32_w]
    rfl
  refine one_ (i := 2) (N := some 56) #[true, true, true, false, false] rfl rfl (by kernel_rfl) (by decide) (fun K hK => ?_)
  refine goes_ Try.func14 (by kernel_rfl) rfl #[.agg #[.int .i64 a0_0, .slice A0_1 l0_1.length c0_1, .int .i64 a0_2]] (by rfl) rfl rfl (by (try simp only [List.map_toArray, List.map_cons, List.map_nil]); first | done | rfl) ?_
  with_reducible refine (laws_toKeep.calls k a0_0 _ _ l0_1 a0_2 t34 t35 t36 _ (Kd.C_below HR0_1.out HB.out) HC0_1.out AQ33.out).mono ?_
  rintro e W23 ⟨v37, rfl, ho37, hb⟩
  refine ⟨_, rfl, ?_⟩
  obtain ⟨B37, d37, e_⟩ := Kd.S_slice ho37
  subst e_
  obtain ⟨lo37, hi37, nn, ht_, hO37⟩ := laws_FnExactPlayRides.newS ho37 HT.out (below_size HB.out) hb.size
  replace HO17 := Aside0.mk (Kd.R_below HO17.out hb)
  replace HO22 := Aside0.mk (Kd.S_below HO22.out hb)
  replace HO25 := Aside0.mk (Kd.S_below HO25.out hb)
  replace HO30 := Aside0.mk (Kd.R_below HO30.out hb)
  replace BK1 := Aside0.mk (blk_below (g := gb1) (o := .cells #[.int .i64 a0_0, .slice A0_1 l0_1.length c0_1, .int .i64 a0_2] 24 (0, 0)) BK1.out hb)
  replace BK2 := Aside0.mk (blk_below (g := gb2) (o := .cells #[.slice B17 t14.length d17, .bool t15] 39 (0, 0)) BK2.out hb)
  replace BK3 := Aside0.mk (blk_below (g := gb3) (o := .cells #[.int .i64 t19, .slice B22 t20.length d22, .int .i64 t21] 27 (0, 0)) BK3.out hb)
  replace BK4 := Aside0.mk (blk_below (g := gb4) (o := .cells #[.slice B30 t27.length d30, .bool t28] 39 (0, 0)) BK4.out hb)
  replace HB := Aside0.mk (below_step HB.out hb)
  replace HT := Aside0.mk (Nat.le_trans HT.out hb.size)
  have HO37 := Aside0.mk hO37
  replace HT := Aside0.mk ht_
  replace HN := Aside0.mk (And.intro nn HN.out)
  clear ho37 hO37 nn ht_
  clear hb
  refine hK.out _ _ ⟨(blk_cell BK3.out 0).trans rfl, (blk_cell BK3.out 1).trans rfl, (blk_cell BK3.out 2).trans rfl, (blk_cell BK1.out 0).trans rfl, (blk_cell BK1.out 1).trans rfl, (blk_cell BK1.out 2).trans rfl⟩ (fun hHeld => ?_)
  clear hK K
  refine norm_ (a' := ?_) ?_ ?_
  rotate_left
  · show Act.put _ (some 56) _ = _
    simp only [Act.put, List.setIfInBounds_toArray, List.set_cons_zero, List.set_cons_succ, i64_w, i32_w]
    rfl
  refine one_ (i := 3) (N := some 57) #[true, true, true, true, false] rfl rfl (by kernel_rfl) (by decide) (fun K hK => ?_)
  refine goes_ Try.func16 (by kernel_rfl) rfl #[.agg #[.int .i64 t19, .slice B22 t20.length d22, .int .i64 t21], .agg #[.int .i64 t34, .slice B37 t35.length d37, .int .i64 t36]] (by rfl) rfl rfl (by (try simp only [List.map_toArray, List.map_cons, List.map_nil]); first | done | rfl) ?_
  with_reducible refine (laws_eqKeep.calls k t19 _ _ t20 t21 t34 _ _ t35 t36 true _ (Kd.R_reads' (Kd.S_R HO22.out)).2.2 (Kd.R_reads' (Kd.S_R HO22.out)).2.1 (Kd.R_reads' (Kd.S_R HO37.out)).2.2 (Kd.R_reads' (Kd.S_R HO37.out)).2.1 AQ38.out).mono ?_
  rintro e W24 ⟨rfl, hb⟩
  refine ⟨_, rfl, ?_⟩
  replace HO17 := Aside0.mk (Kd.R_below HO17.out hb)
  replace HO22 := Aside0.mk (Kd.S_below HO22.out hb)
  replace HO25 := Aside0.mk (Kd.S_below HO25.out hb)
  replace HO30 := Aside0.mk (Kd.R_below HO30.out hb)
  replace HO37 := Aside0.mk (Kd.S_below HO37.out hb)
  replace BK1 := Aside0.mk (blk_below (g := gb1) (o := .cells #[.int .i64 a0_0, .slice A0_1 l0_1.length c0_1, .int .i64 a0_2] 24 (0, 0)) BK1.out hb)
  replace BK2 := Aside0.mk (blk_below (g := gb2) (o := .cells #[.slice B17 t14.length d17, .bool t15] 39 (0, 0)) BK2.out hb)
  replace BK3 := Aside0.mk (blk_below (g := gb3) (o := .cells #[.int .i64 t19, .slice B22 t20.length d22, .int .i64 t21] 27 (0, 0)) BK3.out hb)
  replace BK4 := Aside0.mk (blk_below (g := gb4) (o := .cells #[.slice B30 t27.length d30, .bool t28] 39 (0, 0)) BK4.out hb)
  replace HB := Aside0.mk (below_step HB.out hb)
  replace HT := Aside0.mk (Nat.le_trans HT.out hb.size)
  clear hb
  clear HO37
  refine hK.out _ _ ⟨(blk_cell BK3.out 0).trans rfl, (blk_cell BK3.out 1).trans rfl, (blk_cell BK3.out 2).trans rfl, (blk_cell BK1.out 0).trans rfl, (blk_cell BK1.out 1).trans rfl, (blk_cell BK1.out 2).trans rfl⟩ (fun hHeld => ?_)
  clear hK K
  refine norm_ (a' := ?_) ?_ ?_
  rotate_left
  · show Act.put _ (some 57) _ = _
    simp only [Act.put, List.setIfInBounds_toArray, List.set_cons_zero, List.set_cons_succ, i64_w, i32_w]
    rfl
  refine pure_ (i := 4) (N := some 58) (v := ?_) (a' := ?_) #[true, true, true, true, true] rfl rfl (by kernel_rfl) (fun _ _ _ h => h) (Or.inl ⟨by rfl, ?_⟩) ?_ ?_
  rotate_left
  · intro w'
    go_simp
    with_reducible rfl
  rotate_left
  · simp only [Act.put, List.setIfInBounds_toArray, List.set_cons_zero, List.set_cons_succ, i64_w, i32_w]
    rfl
  refine done_ (by kernel_rfl) ?_
  try go_wp2_with (first | ((with_reducible refine gate_dst (N := 61) rfl ?_); refine goesL_ (some 61) rfl rfl Try.func43 (by kernel_rfl) rfl #[.slice A1 l1.length c1] rfl (by (try simp only [List.map_toArray, List.map_cons, List.map_nil]); first | done | rfl) ?_; (with_reducible refine (laws_toIntSS.calls k _ _ l1 t41 _ (Kd.C_below HR1.out HB.out) HC1.out AQ40.out).mono ?_); rintro e W25 ⟨v42, rfl, ho42, hb⟩; refine ⟨_, rfl, ?_⟩; obtain ⟨B42, d42, e_⟩ := Kd.S_slice ho42; subst e_; obtain ⟨lo42, hi42, nn, ht_, hO42⟩ := laws_FnExactPlayRides.newS ho42 HT.out (below_size HB.out) hb.size; replace HO17 := Aside0.mk (Kd.R_below HO17.out hb); replace HO22 := Aside0.mk (Kd.S_below HO22.out hb); replace HO25 := Aside0.mk (Kd.S_below HO25.out hb); replace HO30 := Aside0.mk (Kd.R_below HO30.out hb); replace BK1 := Aside0.mk (blk_below (g := gb1) (o := .cells #[.int .i64 a0_0, .slice A0_1 l0_1.length c0_1, .int .i64 a0_2] 24 (0, 0)) BK1.out hb); replace BK2 := Aside0.mk (blk_below (g := gb2) (o := .cells #[.slice B17 t14.length d17, .bool t15] 39 (0, 0)) BK2.out hb); replace BK3 := Aside0.mk (blk_below (g := gb3) (o := .cells #[.int .i64 t19, .slice B22 t20.length d22, .int .i64 t21] 27 (0, 0)) BK3.out hb); replace BK4 := Aside0.mk (blk_below (g := gb4) (o := .cells #[.slice B30 t27.length d30, .bool t28] 39 (0, 0)) BK4.out hb); replace HB := Aside0.mk (below_step HB.out hb); replace HT := Aside0.mk (Nat.le_trans HT.out hb.size); have HO42 := Aside0.mk hO42; replace HT := Aside0.mk ht_; replace HN := Aside0.mk (And.intro nn HN.out); clear ho42 hO42 nn ht_; clear hb) | ((with_reducible refine gate_dst (N := 62) rfl ?_); refine goesL_ (some 62) rfl rfl Try.func33 (by kernel_rfl) rfl #[.slice B25 t24.length d25, .slice B42 t41.length d42] rfl (by (try simp only [List.map_toArray, List.map_cons, List.map_nil]); first | done | rfl) ?_; (with_reducible refine (laws_eqIntSS.calls k _ _ t24 _ _ t41 true _ (Kd.R_reads' (Kd.S_R HO25.out)).2.2 (Kd.R_reads' (Kd.S_R HO25.out)).2.1 (Kd.R_reads' (Kd.S_R HO42.out)).2.2 (Kd.R_reads' (Kd.S_R HO42.out)).2.1 AQ43.out).mono ?_); rintro e W26 ⟨rfl, hd⟩; have hb := hd.below; clear hd; refine ⟨_, rfl, ?_⟩; replace HO17 := Aside0.mk (Kd.R_below HO17.out hb); replace HO22 := Aside0.mk (Kd.S_below HO22.out hb); replace HO25 := Aside0.mk (Kd.S_below HO25.out hb); replace HO30 := Aside0.mk (Kd.R_below HO30.out hb); replace HO42 := Aside0.mk (Kd.S_below HO42.out hb); replace BK1 := Aside0.mk (blk_below (g := gb1) (o := .cells #[.int .i64 a0_0, .slice A0_1 l0_1.length c0_1, .int .i64 a0_2] 24 (0, 0)) BK1.out hb); replace BK2 := Aside0.mk (blk_below (g := gb2) (o := .cells #[.slice B17 t14.length d17, .bool t15] 39 (0, 0)) BK2.out hb); replace BK3 := Aside0.mk (blk_below (g := gb3) (o := .cells #[.int .i64 t19, .slice B22 t20.length d22, .int .i64 t21] 27 (0, 0)) BK3.out hb); replace BK4 := Aside0.mk (blk_below (g := gb4) (o := .cells #[.slice B30 t27.length d30, .bool t28] 39 (0, 0)) BK4.out hb); replace HB := Aside0.mk (below_step HB.out hb); replace HT := Aside0.mk (Nat.le_trans HT.out hb.size); clear hb; clear HO42; have cz3_0 : W26.cell? ⟨gb3, 0, none⟩ = some (.int .i64 t19) := (blk_cell BK3.out 0).trans rfl; have cz3_1 : W26.cell? ⟨gb3, 1, none⟩ = some (.slice B22 t20.length d22) := (blk_cell BK3.out 1).trans rfl; have cz3_2 : W26.cell? ⟨gb3, 2, none⟩ = some (.int .i64 t21) := (blk_cell BK3.out 2).trans rfl) | ((with_reducible refine gate_dst (N := 66) rfl ?_); refine goesL_ (some 66) rfl rfl Try.func26 (by kernel_rfl) rfl #[.agg #[.int .i64 t19, .slice B22 t20.length d22, .int .i64 t21], .int .i64 1] rfl (by (try simp only [List.map_toArray, List.map_cons, List.map_nil]); first | done | rfl) ?_; (with_reducible refine (laws_markKeep.calls k (fun k_ => lo22 ≤ k_ ∧ k_ < hi22) t19 (.slice B22 t20.length d22) t20 t21 1 t46 t47 w _ HB.out HO22.out AQ45.out).mono ?_); rintro e W27 ⟨rfl, hy0, hb, hkp⟩; refine ⟨_, rfl, ?_⟩; replace HO17 := Aside0.mk (laws_FnExactPlayRides.keptR HO17.out hkp (by have hn_ := HN.out; omega)); replace HO25 := Aside0.mk (laws_FnExactPlayRides.keptS HO25.out hkp (by have hn_ := HN.out; omega)); replace HO30 := Aside0.mk (laws_FnExactPlayRides.keptR HO30.out hkp (by have hn_ := HN.out; omega)); replace BK1 := Aside0.mk (laws_FnExactPlayRides.keptB BK1.out hkp (by have hn_ := HN.out; omega)); replace BK2 := Aside0.mk (laws_FnExactPlayRides.keptB BK2.out hkp (by have hn_ := HN.out; omega)); replace BK3 := Aside0.mk (laws_FnExactPlayRides.keptB BK3.out hkp (by have hn_ := HN.out; omega)); replace BK4 := Aside0.mk (laws_FnExactPlayRides.keptB BK4.out hkp (by have hn_ := HN.out; omega)); replace HO22 := Aside0.mk (hy0); replace HB := Aside0.mk hb; replace HT := Aside0.mk (Nat.le_trans HT.out hkp.1); clear hy0 hb hkp; have hl_ := (Kd.R_reads' (Kd.S_R HO22.out)).1; rw [hl_] at HO22 BK3; (try simp only [hl_]); clear hl_; clear HO22; (try clear cz3_0 cz3_1 cz3_2)) | ((with_reducible refine gate_dst (N := 69) rfl ?_); refine goesL_ (some 69) rfl rfl Try.func34 (by kernel_rfl) rfl #[.slice B25 t24.length d25, .int .i64 t46] rfl (by (try simp only [List.map_toArray, List.map_cons, List.map_nil]); first | done | rfl) ?_; (with_reducible refine (laws_markIntSS.calls k (fun k_ => lo25 ≤ k_ ∧ k_ < hi25) (.slice B25 t24.length d25) t24 t46 t49 t50 w _ HB.out HO25.out AQ48.out).mono ?_); rintro e W28 ⟨rfl, hy0, hb, hkp⟩; refine ⟨_, rfl, ?_⟩; replace HO17 := Aside0.mk (laws_FnExactPlayRides.keptR HO17.out hkp (by have hn_ := HN.out; omega)); replace HO30 := Aside0.mk (laws_FnExactPlayRides.keptR HO30.out hkp (by have hn_ := HN.out; omega)); replace BK1 := Aside0.mk (laws_FnExactPlayRides.keptB BK1.out hkp (by have hn_ := HN.out; omega)); replace BK2 := Aside0.mk (laws_FnExactPlayRides.keptB BK2.out hkp (by have hn_ := HN.out; omega)); replace BK3 := Aside0.mk (laws_FnExactPlayRides.keptB BK3.out hkp (by have hn_ := HN.out; omega)); replace BK4 := Aside0.mk (laws_FnExactPlayRides.keptB BK4.out hkp (by have hn_ := HN.out; omega)); replace HO25 := Aside0.mk (hy0); replace HB := Aside0.mk hb; replace HT := Aside0.mk (Nat.le_trans HT.out hkp.1); clear hy0 hb hkp; have hl_ := (Kd.R_reads' (Kd.S_R HO25.out)).1; rw [hl_] at HO25; (try simp only [hl_]); clear hl_; clear HO25; have cz4_0 : W28.cell? ⟨gb4, 0, none⟩ = some (.slice B30 t27.length d30) := (blk_cell BK4.out 0).trans rfl; have cz4_1 : W28.cell? ⟨gb4, 1, none⟩ = some (.bool t28) := (blk_cell BK4.out 1).trans rfl; have cz2_0 : W28.cell? ⟨gb2, 0, none⟩ = some (.slice B17 t14.length d17) := (blk_cell BK2.out 0).trans rfl; have cz2_1 : W28.cell? ⟨gb2, 1, none⟩ = some (.bool t15) := (blk_cell BK2.out 1).trans rfl) | ((with_reducible refine gate_dst (N := 75) rfl ?_); (refine gate_guard (by rfl) ?_; dsimp only); refine goesL_ (some 75) rfl rfl Try.func23 (by kernel_rfl) rfl #[.agg #[.slice B30 t27.length d30, .bool t28], .agg #[.slice B17 t14.length d17, .bool t15]] rfl (by (try simp only [List.map_toArray, List.map_cons, List.map_nil]); first | done | rfl) ?_; (with_reducible refine (laws_eqBank.calls k _ _ t27 t28 _ _ t14 t15 true _ (Kd.R_reads' HO30.out).2.2 (Kd.R_reads' HO30.out).2.1 (Kd.R_reads' HO17.out).2.2 (Kd.R_reads' HO17.out).2.1 AQ51.out).mono ?_); rintro e W29 ⟨rfl, hb⟩; refine ⟨_, rfl, ?_⟩; replace HO17 := Aside0.mk (Kd.R_below HO17.out hb); replace HO30 := Aside0.mk (Kd.R_below HO30.out hb); replace BK1 := Aside0.mk (blk_below (g := gb1) (o := .cells #[.int .i64 a0_0, .slice A0_1 l0_1.length c0_1, .int .i64 a0_2] 24 (0, 0)) BK1.out hb); replace BK2 := Aside0.mk (blk_below (g := gb2) (o := .cells #[.slice B17 t14.length d17, .bool t15] 39 (0, 0)) BK2.out hb); replace BK3 := Aside0.mk (blk_below (g := gb3) (o := .cells #[.int .i64 t19, .slice B22 t47.length d22, .int .i64 t21] 27 (0, 0)) BK3.out hb); replace BK4 := Aside0.mk (blk_below (g := gb4) (o := .cells #[.slice B30 t27.length d30, .bool t28] 39 (0, 0)) BK4.out hb); replace HB := Aside0.mk (below_step HB.out hb); replace HT := Aside0.mk (Nat.le_trans HT.out hb.size); clear hb; (try clear cz4_0 cz4_1 cz2_0 cz2_1); have cz4_0 : W29.cell? ⟨gb4, 0, none⟩ = some (.slice B30 t27.length d30) := (blk_cell BK4.out 0).trans rfl; have cz4_1 : W29.cell? ⟨gb4, 1, none⟩ = some (.bool t28) := (blk_cell BK4.out 1).trans rfl) | ((with_reducible refine gate_dst (N := 85) rfl ?_); refine goesL_ (some 85) rfl rfl Try.func27 (by kernel_rfl) rfl #[.agg #[.slice B30 t27.length d30, .bool t28], .int .i64 1] rfl (by (try simp only [List.map_toArray, List.map_cons, List.map_nil]); first | done | rfl) ?_; (with_reducible refine (laws_markBank.calls k (fun k_ => lo30 ≤ k_ ∧ k_ < hi30) (.slice B30 t27.length d30) t27 t28 1 t54 t55 w _ HB.out HO30.out AQ53.out).mono ?_); rintro e W30 ⟨rfl, hy0, hb, hkp⟩; refine ⟨_, rfl, ?_⟩; replace HO17 := Aside0.mk (laws_FnExactPlayRides.keptR HO17.out hkp (by have hn_ := HN.out; omega)); replace BK1 := Aside0.mk (laws_FnExactPlayRides.keptB BK1.out hkp (by have hn_ := HN.out; omega)); replace BK2 := Aside0.mk (laws_FnExactPlayRides.keptB BK2.out hkp (by have hn_ := HN.out; omega)); replace BK3 := Aside0.mk (laws_FnExactPlayRides.keptB BK3.out hkp (by have hn_ := HN.out; omega)); replace BK4 := Aside0.mk (laws_FnExactPlayRides.keptB BK4.out hkp (by have hn_ := HN.out; omega)); replace HO30 := Aside0.mk (Kd.R_reok rfl hy0 (fun k_ e_ => HO30.out.1 k_ e_)); replace HB := Aside0.mk hb; replace HT := Aside0.mk (Nat.le_trans HT.out hkp.1); clear hy0 hb hkp; have hl_ := (Kd.R_reads' HO30.out).1; rw [hl_] at HO30 BK4; (try simp only [hl_]); clear hl_; (try clear cz4_0 cz4_1); have cz4_0 : W30.cell? ⟨gb4, 0, none⟩ = some (.slice B30 t55.length d30) := (blk_cell BK4.out 0).trans rfl; have cz4_1 : W30.cell? ⟨gb4, 1, none⟩ = some (.bool t28) := (blk_cell BK4.out 1).trans rfl) | ((with_reducible refine gate_dst (N := 88) rfl ?_); refine goesL_ (some 88) rfl rfl Try.func28 (by kernel_rfl) rfl #[.agg #[.slice B30 t55.length d30, .bool t28], .int .i64 1] rfl (by (try simp only [List.map_toArray, List.map_cons, List.map_nil]); first | done | rfl) ?_; (with_reducible refine (laws_heldBank.calls k _ _ t55 t28 1 t57 _ (Kd.R_reads' HO30.out).2.2 (Kd.R_reads' HO30.out).2.1 AQ56.out).mono ?_); rintro e W31 ⟨rfl, hb⟩; refine ⟨_, rfl, ?_⟩; replace HO17 := Aside0.mk (Kd.R_below HO17.out hb); replace HO30 := Aside0.mk (Kd.R_below HO30.out hb); replace BK1 := Aside0.mk (blk_below (g := gb1) (o := .cells #[.int .i64 a0_0, .slice A0_1 l0_1.length c0_1, .int .i64 a0_2] 24 (0, 0)) BK1.out hb); replace BK2 := Aside0.mk (blk_below (g := gb2) (o := .cells #[.slice B17 t14.length d17, .bool t15] 39 (0, 0)) BK2.out hb); replace BK3 := Aside0.mk (blk_below (g := gb3) (o := .cells #[.int .i64 t19, .slice B22 t47.length d22, .int .i64 t21] 27 (0, 0)) BK3.out hb); replace BK4 := Aside0.mk (blk_below (g := gb4) (o := .cells #[.slice B30 t55.length d30, .bool t28] 39 (0, 0)) BK4.out hb); replace HB := Aside0.mk (below_step HB.out hb); replace HT := Aside0.mk (Nat.le_trans HT.out hb.size); clear hb; (try clear cz4_0 cz4_1); have cz1_0 : W31.cell? ⟨gb1, 0, none⟩ = some (.int .i64 a0_0) := (blk_cell BK1.out 0).trans rfl; have cz1_1 : W31.cell? ⟨gb1, 1, none⟩ = some (.slice A0_1 l0_1.length c0_1) := (blk_cell BK1.out 1).trans rfl; have cz1_2 : W31.cell? ⟨gb1, 2, none⟩ = some (.int .i64 a0_2) := (blk_cell BK1.out 2).trans rfl) | ((with_reducible refine gate_dst (N := 96) rfl ?_); refine goesL_ (some 96) rfl rfl Try.func14 (by kernel_rfl) rfl #[.agg #[.int .i64 a0_0, .slice A0_1 l0_1.length c0_1, .int .i64 a0_2]] rfl (by (try simp only [List.map_toArray, List.map_cons, List.map_nil]); first | done | rfl) ?_; (with_reducible refine (laws_toKeep.calls k a0_0 _ _ l0_1 a0_2 t59 t60 t61 _ (Kd.C_below HR0_1.out HB.out) HC0_1.out AQ58.out).mono ?_); rintro e W32 ⟨v62, rfl, ho62, hb⟩; refine ⟨_, rfl, ?_⟩; obtain ⟨B62, d62, e_⟩ := Kd.S_slice ho62; subst e_; obtain ⟨lo62, hi62, nn, ht_, hO62⟩ := laws_FnExactPlayRides.newS ho62 HT.out (below_size HB.out) hb.size; replace HO17 := Aside0.mk (Kd.R_below HO17.out hb); replace HO30 := Aside0.mk (Kd.R_below HO30.out hb); replace BK1 := Aside0.mk (blk_below (g := gb1) (o := .cells #[.int .i64 a0_0, .slice A0_1 l0_1.length c0_1, .int .i64 a0_2] 24 (0, 0)) BK1.out hb); replace BK2 := Aside0.mk (blk_below (g := gb2) (o := .cells #[.slice B17 t14.length d17, .bool t15] 39 (0, 0)) BK2.out hb); replace BK3 := Aside0.mk (blk_below (g := gb3) (o := .cells #[.int .i64 t19, .slice B22 t47.length d22, .int .i64 t21] 27 (0, 0)) BK3.out hb); replace BK4 := Aside0.mk (blk_below (g := gb4) (o := .cells #[.slice B30 t55.length d30, .bool t28] 39 (0, 0)) BK4.out hb); replace HB := Aside0.mk (below_step HB.out hb); replace HT := Aside0.mk (Nat.le_trans HT.out hb.size); have HO62 := Aside0.mk hO62; replace HT := Aside0.mk ht_; replace HN := Aside0.mk (And.intro nn HN.out); clear ho62 hO62 nn ht_; clear hb; (try clear cz1_0 cz1_1 cz1_2)) | ((with_reducible refine gate_dst (N := 98) rfl ?_); refine goesL_ (some 98) rfl rfl Try.func43 (by kernel_rfl) rfl #[.slice A1 l1.length c1] rfl (by (try simp only [List.map_toArray, List.map_cons, List.map_nil]); first | done | rfl) ?_; (with_reducible refine (laws_toIntSS.calls k _ _ l1 t64 _ (Kd.C_below HR1.out HB.out) HC1.out AQ63.out).mono ?_); rintro e W33 ⟨v65, rfl, ho65, hb⟩; refine ⟨_, rfl, ?_⟩; obtain ⟨B65, d65, e_⟩ := Kd.S_slice ho65; subst e_; obtain ⟨lo65, hi65, nn, ht_, hO65⟩ := laws_FnExactPlayRides.newS ho65 HT.out (below_size HB.out) hb.size; replace HO17 := Aside0.mk (Kd.R_below HO17.out hb); replace HO30 := Aside0.mk (Kd.R_below HO30.out hb); replace HO62 := Aside0.mk (Kd.S_below HO62.out hb); replace BK1 := Aside0.mk (blk_below (g := gb1) (o := .cells #[.int .i64 a0_0, .slice A0_1 l0_1.length c0_1, .int .i64 a0_2] 24 (0, 0)) BK1.out hb); replace BK2 := Aside0.mk (blk_below (g := gb2) (o := .cells #[.slice B17 t14.length d17, .bool t15] 39 (0, 0)) BK2.out hb); replace BK3 := Aside0.mk (blk_below (g := gb3) (o := .cells #[.int .i64 t19, .slice B22 t47.length d22, .int .i64 t21] 27 (0, 0)) BK3.out hb); replace BK4 := Aside0.mk (blk_below (g := gb4) (o := .cells #[.slice B30 t55.length d30, .bool t28] 39 (0, 0)) BK4.out hb); replace HB := Aside0.mk (below_step HB.out hb); replace HT := Aside0.mk (Nat.le_trans HT.out hb.size); have HO65 := Aside0.mk hO65; replace HT := Aside0.mk ht_; replace HN := Aside0.mk (And.intro nn HN.out); clear ho65 hO65 nn ht_; clear hb) | ((with_reducible refine gate_dst (N := 99) rfl ?_); refine goesL_ (some 99) rfl rfl Try.func44 (by kernel_rfl) rfl #[.agg #[.int .i64 t59, .slice B62 t60.length d62, .int .i64 t61], .slice B65 t64.length d65] rfl (by (try simp only [List.map_toArray, List.map_cons, List.map_nil]); first | done | rfl) ?_; (with_reducible refine (impl_PlayRides.calls k t59 _ _ t60 t61 _ _ t64 t67 t68 t69 _ (Kd.R_reads' (Kd.S_R HO62.out)).2.2 (Kd.R_reads' (Kd.S_R HO62.out)).2.1 (Kd.R_reads' (Kd.S_R HO65.out)).2.2 (Kd.R_reads' (Kd.S_R HO65.out)).2.1 AQ66.out).mono ?_); rintro e W34 ⟨v70, rfl, ho70, hb⟩; refine ⟨_, rfl, ?_⟩; obtain ⟨B70, d70, e_⟩ := Kd.R_slice ho70; subst e_; obtain ⟨lo70, hi70, nn, ht_, hO70⟩ := laws_FnExactPlayRides.newR ho70 HT.out (below_size HB.out) hb.size; replace HO17 := Aside0.mk (Kd.R_below HO17.out hb); replace HO30 := Aside0.mk (Kd.R_below HO30.out hb); replace HO62 := Aside0.mk (Kd.S_below HO62.out hb); replace HO65 := Aside0.mk (Kd.S_below HO65.out hb); replace BK1 := Aside0.mk (blk_below (g := gb1) (o := .cells #[.int .i64 a0_0, .slice A0_1 l0_1.length c0_1, .int .i64 a0_2] 24 (0, 0)) BK1.out hb); replace BK2 := Aside0.mk (blk_below (g := gb2) (o := .cells #[.slice B17 t14.length d17, .bool t15] 39 (0, 0)) BK2.out hb); replace BK3 := Aside0.mk (blk_below (g := gb3) (o := .cells #[.int .i64 t19, .slice B22 t47.length d22, .int .i64 t21] 27 (0, 0)) BK3.out hb); replace BK4 := Aside0.mk (blk_below (g := gb4) (o := .cells #[.slice B30 t55.length d30, .bool t28] 39 (0, 0)) BK4.out hb); replace HB := Aside0.mk (below_step HB.out hb); replace HT := Aside0.mk (Nat.le_trans HT.out hb.size); have HO70 := Aside0.mk hO70; replace HT := Aside0.mk ht_; replace HN := Aside0.mk (And.intro nn HN.out); clear ho70 hO70 nn ht_; clear hb; clear HO62 HO65) | ((with_reducible refine gate_dst (N := 15) rfl ?_); refine box_event ?hg (N := 15) ?hd (cs := #[.slice none 0 0, .bool false]) (t := 39) ?hr ?_; (case hd => rfl); (case hg => rfl); (case hr => first | (go_simp; done) | (go_simp; rfl)); intro gb5 hg W35 hbox hb; have nn : hi70 ≤ gb5 := Nat.le_trans HT.out (Nat.le_of_eq hg.symm); have GE5 := Aside0.mk (Nat.le_trans (below_size HB.out) (Nat.le_of_eq hg.symm)); replace HO17 := Aside0.mk (Kd.R_below HO17.out hb); replace HO30 := Aside0.mk (Kd.R_below HO30.out hb); replace HO70 := Aside0.mk (Kd.R_below HO70.out hb); replace BK1 := Aside0.mk (blk_below (g := gb1) (o := .cells #[.int .i64 a0_0, .slice A0_1 l0_1.length c0_1, .int .i64 a0_2] 24 (0, 0)) BK1.out hb); replace BK2 := Aside0.mk (blk_below (g := gb2) (o := .cells #[.slice B17 t14.length d17, .bool t15] 39 (0, 0)) BK2.out hb); replace BK3 := Aside0.mk (blk_below (g := gb3) (o := .cells #[.int .i64 t19, .slice B22 t47.length d22, .int .i64 t21] 27 (0, 0)) BK3.out hb); replace BK4 := Aside0.mk (blk_below (g := gb4) (o := .cells #[.slice B30 t55.length d30, .bool t28] 39 (0, 0)) BK4.out hb); replace HB := Aside0.mk (below_step HB.out hb); replace HT := Aside0.mk (Nat.le_trans HT.out hb.size); have BK5 := Aside0.mk hbox; replace HT := Aside0.mk (Nat.succ_le_of_lt (blk_lt hbox)); replace HN := Aside0.mk (And.intro nn HN.out); clear hg hbox hb nn) | ((with_reducible refine gate_store (t := 39) (p := 15) rfl ?_); refine laws_FnExactPlayRides.store rfl rfl rfl gb5 39 #[.slice none 0 0, .bool false] (.agg #[.slice B70 t67.length d70, .bool t68]) [.slice B70 t67.length d70, .bool t68] rfl rfl BK5.out rfl (by kernel_rfl) rfl (by intro q_ hq_; simp only [List.mem_cons, List.not_mem_nil, or_false] at hq_; rcases hq_ with rfl | rfl <;> rfl) ?_; intro W36 hbx hg; replace HO17 := Aside0.mk (laws_FnExactPlayRides.grownR HO17.out hg (by have hn_ := HN.out; omega)); replace HO30 := Aside0.mk (laws_FnExactPlayRides.grownR HO30.out hg (by have hn_ := HN.out; omega)); replace HO70 := Aside0.mk (laws_FnExactPlayRides.grownR HO70.out hg (by have hn_ := HN.out; omega)); replace BK1 := Aside0.mk (laws_FnExactPlayRides.grownB BK1.out hg (by have hn_ := HN.out; omega)); replace BK2 := Aside0.mk (laws_FnExactPlayRides.grownB BK2.out hg (by have hn_ := HN.out; omega)); replace BK3 := Aside0.mk (laws_FnExactPlayRides.grownB BK3.out hg (by have hn_ := HN.out; omega)); replace BK4 := Aside0.mk (laws_FnExactPlayRides.grownB BK4.out hg (by have hn_ := HN.out; omega)); replace HB := Aside0.mk (Below.grown HB.out hg (below_size HB.out) (fun k_ hk_ => by injection hk_ with hk_; subst hk_; exact GE5.out)); replace HT := Aside0.mk (Nat.le_trans HT.out hg.size); replace BK5 := Aside0.mk hbx; clear hbx hg; have cz5_0 : W36.cell? ⟨gb5, 0, none⟩ = some (.slice B70 t67.length d70) := (blk_cell BK5.out 0).trans rfl; have cz5_1 : W36.cell? ⟨gb5, 1, none⟩ = some (.bool t68) := (blk_cell BK5.out 1).trans rfl; have cz2_0 : W36.cell? ⟨gb2, 0, none⟩ = some (.slice B17 t14.length d17) := (blk_cell BK2.out 0).trans rfl; have cz2_1 : W36.cell? ⟨gb2, 1, none⟩ = some (.bool t15) := (blk_cell BK2.out 1).trans rfl) | ((with_reducible refine gate_dst (N := 104) rfl ?_); refine goesL_ (some 104) rfl rfl Try.func23 (by kernel_rfl) rfl #[.agg #[.slice B70 t67.length d70, .bool t68], .agg #[.slice B17 t14.length d17, .bool t15]] rfl (by (try simp only [List.map_toArray, List.map_cons, List.map_nil]); first | done | rfl) ?_; (with_reducible refine (laws_eqBank.calls k _ _ t67 t68 _ _ t14 t15 true _ (Kd.R_reads' HO70.out).2.2 (Kd.R_reads' HO70.out).2.1 (Kd.R_reads' HO17.out).2.2 (Kd.R_reads' HO17.out).2.1 AQ71.out).mono ?_); rintro e W37 ⟨rfl, hb⟩; refine ⟨_, rfl, ?_⟩; replace HO17 := Aside0.mk (Kd.R_below HO17.out hb); replace HO30 := Aside0.mk (Kd.R_below HO30.out hb); replace HO70 := Aside0.mk (Kd.R_below HO70.out hb); replace BK1 := Aside0.mk (blk_below (g := gb1) (o := .cells #[.int .i64 a0_0, .slice A0_1 l0_1.length c0_1, .int .i64 a0_2] 24 (0, 0)) BK1.out hb); replace BK2 := Aside0.mk (blk_below (g := gb2) (o := .cells #[.slice B17 t14.length d17, .bool t15] 39 (0, 0)) BK2.out hb); replace BK3 := Aside0.mk (blk_below (g := gb3) (o := .cells #[.int .i64 t19, .slice B22 t47.length d22, .int .i64 t21] 27 (0, 0)) BK3.out hb); replace BK4 := Aside0.mk (blk_below (g := gb4) (o := .cells #[.slice B30 t55.length d30, .bool t28] 39 (0, 0)) BK4.out hb); replace BK5 := Aside0.mk (blk_below (g := gb5) (o := .cells #[.slice B70 t67.length d70, .bool t68] 39 (0, 0)) BK5.out hb); replace HB := Aside0.mk (below_step HB.out hb); replace HT := Aside0.mk (Nat.le_trans HT.out hb.size); clear hb; clear HO17 HO70; (try clear cz5_0 cz5_1 cz2_0 cz2_1); have cz4_0 : W37.cell? ⟨gb4, 0, none⟩ = some (.slice B30 t55.length d30) := (blk_cell BK4.out 0).trans rfl; have cz4_1 : W37.cell? ⟨gb4, 1, none⟩ = some (.bool t28) := (blk_cell BK4.out 1).trans rfl) | ((with_reducible refine gate_dst (N := 113) rfl ?_); refine goesL_ (some 113) rfl rfl Try.func28 (by kernel_rfl) rfl #[.agg #[.slice B30 t55.length d30, .bool t28], .int .i64 1] rfl (by (try simp only [List.map_toArray, List.map_cons, List.map_nil]); first | done | rfl) ?_; (with_reducible refine (laws_heldBank.calls k _ _ t55 t28 1 t74 _ (Kd.R_reads' HO30.out).2.2 (Kd.R_reads' HO30.out).2.1 AQ73.out).mono ?_); rintro e W38 ⟨rfl, hb⟩; refine ⟨_, rfl, ?_⟩; replace HO30 := Aside0.mk (Kd.R_below HO30.out hb); replace BK1 := Aside0.mk (blk_below (g := gb1) (o := .cells #[.int .i64 a0_0, .slice A0_1 l0_1.length c0_1, .int .i64 a0_2] 24 (0, 0)) BK1.out hb); replace BK2 := Aside0.mk (blk_below (g := gb2) (o := .cells #[.slice B17 t14.length d17, .bool t15] 39 (0, 0)) BK2.out hb); replace BK3 := Aside0.mk (blk_below (g := gb3) (o := .cells #[.int .i64 t19, .slice B22 t47.length d22, .int .i64 t21] 27 (0, 0)) BK3.out hb); replace BK4 := Aside0.mk (blk_below (g := gb4) (o := .cells #[.slice B30 t55.length d30, .bool t28] 39 (0, 0)) BK4.out hb); replace BK5 := Aside0.mk (blk_below (g := gb5) (o := .cells #[.slice B70 t67.length d70, .bool t68] 39 (0, 0)) BK5.out hb); replace HB := Aside0.mk (below_step HB.out hb); replace HT := Aside0.mk (Nat.le_trans HT.out hb.size); clear hb; clear HO30; (try clear cz4_0 cz4_1)))
  go_ret
  exact ⟨by first | rfl | (simp; done) | (simp [*]; done), HB.out⟩

end Go.Proofs.Ytomiikbcahocaaa.G
