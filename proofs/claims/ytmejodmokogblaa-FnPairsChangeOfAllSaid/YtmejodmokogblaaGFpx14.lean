-- Laid by wip/gprint.py (the session's own program, round the kit's printer) for this claim.
import Derived.Test.YtmejodmokogblaaGFpx0
import Derived.Test.YtmejodmokogblaaGFpx1
import Derived.Test.YtmejodmokogblaaGFpx2
import Derived.Test.YtmejodmokogblaaGFpx4
import Derived.Test.YtmejodmokogblaaGFpx5
import Derived.Test.YtmejodmokogblaaGFpx6
import Derived.Test.YtmejodmokogblaaGFpx7
import Derived.Test.YtmejodmokogblaaGFpx8
import Derived.Test.YtmejodmokogblaaGFpx9
import Derived.Test.YtmejodmokogblaaGFpx10
import Derived.Test.YtmejodmokogblaaGFpx12
import Derived.Test.YtmejodmokogblaaGFpx13
namespace Go.Proofs.Ytmejodmokogblaa.G
open Go.RowKit Go.Proofs.YtmejodmokogblaaW.PrintWords Go.Proofs.YtmejodmokogblaaW.PrintLast Go.Proofs.YtmejodmokogblaaW.PrintMore
attribute [local go_sem] max2_int min2_int max_two min_two max_three min_three max_four min_four   -- for this text's walks alone
set_option linter.unusedVariables false
set_option linter.unusedSimpArgs false

/-! ### laws_FnPairsChangeOfAll: its walk, the beginning -/
set_option maxHeartbeats 8000000 in
set_option maxRecDepth 100000 in
theorem laws_FnPairsChangeOfAll.rest0 (k : Nat) (A0 : Option Addr) (c0 : Nat) (l0 : List Int) (A1 : Option Addr) (c1 : Nat) (l1 : List Int) (a2 : Int) (A3 : Option Addr) (c3 : Nat) (l3 : List Int) (a4 a5 a6 a7 : Int) (r : Bool) (w : World) (HR0 : Aside0 (Kd.C (Kd.int .i64) w A0 l0.length l0)) (HC0 : Aside0 (l0.length ≤ c0)) (HR1 : Aside0 (Kd.C (Kd.int .i64) w A1 l1.length l1)) (HC1 : Aside0 (l1.length ≤ c1)) (HR3 : Aside0 (Kd.C (Kd.int .i64) w A3 l3.length l3)) (HC3 : Aside0 (l3.length ≤ c3)) (K1 : Act → World → Prop) (hK1 : ∀ aa ww, Code.wp Try.prog (cutNx 2 (Try.f3.body.getD .skip)) (bodyPost Try.prog Try.f3 fun e w' => e = .returned (.bool r) ∧ Below w.heap.size w w') aa ww → K1 aa ww) (wc : World) (a' : Act) (hinv : laws_FnPairsChangeOfAll.C0 k A0 c0 l0 A1 c1 l1 a2 A3 c3 l3 a4 a5 a6 a7 r w  a' wc) :
    Code.wp Try.prog (cutNx 1 (cutFs (cutNx 1 (Try.f3.body.getD .skip)))) (Exit.then K1 (bodyPost Try.prog Try.f3 fun e w' => e = .returned (.bool r) ∧ Below w.heap.size w w')) a' wc := by
 obtain ⟨uu, rfl, p0, p1, p2, p3, p4, p5, p6, p7, hcut⟩ := hinv
 rw [cutLit, p0, p1, p2, p3, p4, p5, p6, p7]
 clear p0 p1 p2 p3 p4 p5 p6 p7
 conv => enter [2]; whnf
 conv at hK1 => enter [aa, ww, 1, 2]; whnf
 obtain ⟨kq, x85_8, p85, HA, HJ8, HB⟩ := hcut
 rw [p85]
 clear p85
 cases kq with
 | zero => exact absurd HA.out (by simp [laws_FnPairsChangeOfAll.j0])
 | succ kj8 =>
  have H := HA.out
  clear HA
  simp only [laws_FnPairsChangeOfAll.j0] at H
  by_cases c12 : x85_8 = true
  ·subst c12
   have H1 : (some true) = some r := by rw [if_pos rfl] at H; exact H
   clear H
   have H := H1
   clear H1
   obtain rfl := Option.some.inj H
   go_wp2
   repeat (go_quiet (fail); try go_wp2)
   go_ret
   exact ⟨by first | rfl | (simp [errW_none, errW_some] <;> rfl) | (simp [*, errW_none, errW_some] <;> rfl), by repeat (first | (with_reducible first | exact HB.out | apply below_alloc | apply pw_below_drewN | apply below_drew1) | exact HB.out)⟩
  ·replace c12 := Bool.eq_false_iff.mpr c12
   subst c12
   have H1 : ((impl_RankOfPace.f l0).bind fun bt340 => ((spec_RankOfPace.f kj8 l0).bind fun bt344 => ((impl_HasEvenRound.f kj8 l0).bind fun bt348 => ((spec_HasEvenRound.f kj8 l0).bind fun bt350 => (if (bt340.2 != bt344.2) = true then (none) else ((laws_hSame.f kj8 bt340.1 bt344.1).bind fun t352 => (if t352 = true then (if (bt348.2 != bt350.2) = true then (none) else (if (bt348.1 != bt350.1) = true then (none) else (if (bt348.2 != bt340.2) = true then (none) else (if bt340.2 = true then (laws_FnPairsChangeOfAll.l0 kj8 l0 l1 a2 l3 a4 a5 a6 a7 bt340.1 1) else (laws_FnPairsChangeOfAll.j4 kj8 l1 a2 l3 a4 a5 a6 a7))))) else (none)))))))) = some r := by rw [if_neg (show ¬ (false = true) by decide)] at H; exact H
   clear H
   have H := H1
   clear H1
   replace H := Option.bind_eq_some_iff.mp H
   obtain ⟨⟨t340, t341⟩, A130, H⟩ := H
   replace H : ((spec_RankOfPace.f kj8 l0).bind fun bt344 => ((impl_HasEvenRound.f kj8 l0).bind fun bt348 => ((spec_HasEvenRound.f kj8 l0).bind fun bt350 => (if (t341 != bt344.2) = true then (none) else ((laws_hSame.f kj8 t340 bt344.1).bind fun t352 => (if t352 = true then (if (bt348.2 != bt350.2) = true then (none) else (if (bt348.1 != bt350.1) = true then (none) else (if (bt348.2 != t341) = true then (none) else (if t341 = true then (laws_FnPairsChangeOfAll.l0 kj8 l0 l1 a2 l3 a4 a5 a6 a7 t340 1) else (laws_FnPairsChangeOfAll.j4 kj8 l1 a2 l3 a4 a5 a6 a7))))) else (none))))))) = some r := H
   have A13 := Aside0.mk A130
   clear A130
   replace H := Option.bind_eq_some_iff.mp H
   obtain ⟨⟨t344, t345⟩, A140, H⟩ := H
   replace H : ((impl_HasEvenRound.f kj8 l0).bind fun bt348 => ((spec_HasEvenRound.f kj8 l0).bind fun bt350 => (if (t341 != t345) = true then (none) else ((laws_hSame.f kj8 t340 t344).bind fun t352 => (if t352 = true then (if (bt348.2 != bt350.2) = true then (none) else (if (bt348.1 != bt350.1) = true then (none) else (if (bt348.2 != t341) = true then (none) else (if t341 = true then (laws_FnPairsChangeOfAll.l0 kj8 l0 l1 a2 l3 a4 a5 a6 a7 t340 1) else (laws_FnPairsChangeOfAll.j4 kj8 l1 a2 l3 a4 a5 a6 a7))))) else (none)))))) = some r := H
   have A14 := Aside0.mk A140
   clear A140
   replace H := Option.bind_eq_some_iff.mp H
   obtain ⟨⟨t348, t349⟩, A150, H⟩ := H
   replace H : ((spec_HasEvenRound.f kj8 l0).bind fun bt350 => (if (t341 != t345) = true then (none) else ((laws_hSame.f kj8 t340 t344).bind fun t352 => (if t352 = true then (if (t349 != bt350.2) = true then (none) else (if (t348 != bt350.1) = true then (none) else (if (t349 != t341) = true then (none) else (if t341 = true then (laws_FnPairsChangeOfAll.l0 kj8 l0 l1 a2 l3 a4 a5 a6 a7 t340 1) else (laws_FnPairsChangeOfAll.j4 kj8 l1 a2 l3 a4 a5 a6 a7))))) else (none))))) = some r := H
   have A15 := Aside0.mk A150
   clear A150
   replace H := Option.bind_eq_some_iff.mp H
   obtain ⟨⟨t350, t351⟩, A160, H⟩ := H
   replace H : (if (t341 != t345) = true then (none) else ((laws_hSame.f kj8 t340 t344).bind fun t352 => (if t352 = true then (if (t349 != t351) = true then (none) else (if (t348 != t350) = true then (none) else (if (t349 != t341) = true then (none) else (if t341 = true then (laws_FnPairsChangeOfAll.l0 kj8 l0 l1 a2 l3 a4 a5 a6 a7 t340 1) else (laws_FnPairsChangeOfAll.j4 kj8 l1 a2 l3 a4 a5 a6 a7))))) else (none)))) = some r := H
   have A16 := Aside0.mk A160
   clear A160
   by_cases c17 : (t341 != t345) = true
   ·rw [if_pos c17] at H
    exact absurd H (by simp)
   ·rw [if_neg c17] at H
    have c17b0 : (t341 != t345) = false := by simpa using c17
    (try (have c17b1 : decide (t341 = t345) = true := by simpa using c17))
    (try (have c17b2 : (t341 == t345) = true := by simpa using c17))
    clear c17
    replace H := Option.bind_eq_some_iff.mp H
    obtain ⟨t352, A180, H⟩ := H
    replace H : (if t352 = true then (if (t349 != t351) = true then (none) else (if (t348 != t350) = true then (none) else (if (t349 != t341) = true then (none) else (if t341 = true then (laws_FnPairsChangeOfAll.l0 kj8 l0 l1 a2 l3 a4 a5 a6 a7 t340 1) else (laws_FnPairsChangeOfAll.j4 kj8 l1 a2 l3 a4 a5 a6 a7))))) else (none)) = some r := H
    have A18 := Aside0.mk A180
    clear A180
    by_cases c19 : t352 = true
    ·subst c19
     have H1 : (if (t349 != t351) = true then (none) else (if (t348 != t350) = true then (none) else (if (t349 != t341) = true then (none) else (if t341 = true then (laws_FnPairsChangeOfAll.l0 kj8 l0 l1 a2 l3 a4 a5 a6 a7 t340 1) else (laws_FnPairsChangeOfAll.j4 kj8 l1 a2 l3 a4 a5 a6 a7))))) = some r := by rw [if_pos rfl] at H; exact H
     clear H
     have H := H1
     clear H1
     by_cases c20 : (t349 != t351) = true
     ·rw [if_pos c20] at H
      exact absurd H (by simp)
     ·rw [if_neg c20] at H
      have c20b0 : (t349 != t351) = false := by simpa using c20
      (try (have c20b1 : decide (t349 = t351) = true := by simpa using c20))
      (try (have c20b2 : (t349 == t351) = true := by simpa using c20))
      clear c20
      by_cases c21 : (t348 != t350) = true
      ·rw [if_pos c21] at H
       exact absurd H (by simp)
      ·rw [if_neg c21] at H
       have c21b0 : (t348 != t350) = false := by simpa using c21
       (try (have c21b1 : decide (t348 = t350) = true := by simpa using c21))
       (try (have c21b2 : (t348 == t350) = true := by simpa using c21))
       clear c21
       by_cases c22 : (t349 != t341) = true
       ·rw [if_pos c22] at H
        exact absurd H (by simp)
       ·rw [if_neg c22] at H
        have c22b0 : (t349 != t341) = false := by simpa using c22
        (try (have c22b1 : decide (t349 = t341) = true := by simpa using c22))
        (try (have c22b2 : (t349 == t341) = true := by simpa using c22))
        clear c22
        have HC23 := Aside0.mk H
        clear H
        go_upto_if 130 with (first | (go_at_call 4; (with_reducible refine (impl_RankOfPace.calls _ _ l0 t340 t341 _ ?side1 ?side2 A13.out).mono ?_); (case side1 => repeat (first | exact (Kd.C_below HR0.out HB.out) | (with_reducible refine Kd.C_alloc ?_ _) | (with_reducible refine Kd.C_drewN ?_ _) | (with_reducible refine Kd.C_drew ?_))); (case side2 => exact HC0.out); rintro e w24 ⟨v342, rfl, ho0, hb⟩; have n0_ := Aside0.mk (Kd.R_lower ho0 (below_size (by repeat (first | (with_reducible first | exact HB.out | apply below_alloc | apply pw_below_drewN | apply below_drew1) | exact HB.out)))); have n1_ := Aside0.mk (below_step (by repeat (first | (with_reducible first | exact HB.out | apply below_alloc | apply pw_below_drewN | apply below_drew1) | exact HB.out)) hb); clear HB; have HO343 := n0_; have HB := n1_; clear n0_ n1_; (try clear hb); (try clear hb2); (try clear hk); (try clear hi); (try clear ho0)) | (go_at_call 5; (with_reducible refine (spec_RankOfPace.calls kj8 _ _ l0 t344 t345 _ ?side1 ?side2 A14.out).mono ?_); (case side1 => repeat (first | exact (Kd.C_below HR0.out HB.out) | (with_reducible refine Kd.C_alloc ?_ _) | (with_reducible refine Kd.C_drewN ?_ _) | (with_reducible refine Kd.C_drew ?_))); (case side2 => exact HC0.out); rintro e w25 ⟨v346, rfl, ho0, hb⟩; have n0_ := Aside0.mk (Kd.R_elder' (by (with_reducible repeat (first | apply Kd.R_alloc | apply Kd.R_drewN | apply Kd.R_drew)); exact HO343.out) (Kd.R_base ho0) hb); have n1_ := Aside0.mk (Kd.R_lower (Kd.R_new' ho0 (Kd.R_lt (by (with_reducible repeat (first | apply Kd.R_alloc | apply Kd.R_drewN | apply Kd.R_drew)); exact HO343.out))) (below_size (by repeat (first | (with_reducible first | exact HB.out | apply below_alloc | apply pw_below_drewN | apply below_drew1) | exact HB.out)))); have n2_ := Aside0.mk (below_step (by repeat (first | (with_reducible first | exact HB.out | apply below_alloc | apply pw_below_drewN | apply below_drew1) | exact HB.out)) hb); clear HO343; clear HB; have HO343 := n0_; have HO347 := n1_; have HB := n2_; clear n0_ n1_ n2_; (try clear hb); (try clear hb2); (try clear hk); (try clear hi); (try clear ho0)) | (go_at_call 6; (with_reducible refine (impl_HasEvenRound.calls kj8 _ _ l0 t348 t349 _ ?side1 ?side2 A15.out).mono ?_); (case side1 => repeat (first | exact (Kd.C_below HR0.out HB.out) | (with_reducible refine Kd.C_alloc ?_ _) | (with_reducible refine Kd.C_drewN ?_ _) | (with_reducible refine Kd.C_drew ?_))); (case side2 => exact HC0.out); rintro e w26 ⟨rfl, hb⟩; have n0_ := Aside0.mk (Kd.R_below (by (with_reducible repeat (first | apply Kd.R_alloc | apply Kd.R_drewN | apply Kd.R_drew)); exact HO343.out) hb); have n1_ := Aside0.mk (Kd.R_below (by (with_reducible repeat (first | apply Kd.R_alloc | apply Kd.R_drewN | apply Kd.R_drew)); exact HO347.out) hb); have n2_ := Aside0.mk (below_step (by repeat (first | (with_reducible first | exact HB.out | apply below_alloc | apply pw_below_drewN | apply below_drew1) | exact HB.out)) hb); clear HO343; clear HO347; clear HB; have HO343 := n0_; have HO347 := n1_; have HB := n2_; clear n0_ n1_ n2_; (try clear hb); (try clear hb2); (try clear hk); (try clear hi)) | (go_at_call 7; (with_reducible refine (spec_HasEvenRound.calls kj8 _ _ l0 t350 t351 _ ?side1 ?side2 A16.out).mono ?_); (case side1 => repeat (first | exact (Kd.C_below HR0.out HB.out) | (with_reducible refine Kd.C_alloc ?_ _) | (with_reducible refine Kd.C_drewN ?_ _) | (with_reducible refine Kd.C_drew ?_))); (case side2 => exact HC0.out); rintro e w27 ⟨rfl, hb⟩; have n0_ := Aside0.mk (Kd.R_below (by (with_reducible repeat (first | apply Kd.R_alloc | apply Kd.R_drewN | apply Kd.R_drew)); exact HO343.out) hb); have n1_ := Aside0.mk (Kd.R_below (by (with_reducible repeat (first | apply Kd.R_alloc | apply Kd.R_drewN | apply Kd.R_drew)); exact HO347.out) hb); have n2_ := Aside0.mk (below_step (by repeat (first | (with_reducible first | exact HB.out | apply below_alloc | apply pw_below_drewN | apply below_drew1) | exact HB.out)) hb); clear HO343; clear HO347; clear HB; have HO343 := n0_; have HO347 := n1_; have HB := n2_; clear n0_ n1_ n2_; (try clear hb); (try clear hb2); (try clear hk); (try clear hi); obtain ⟨Ao28, co28, eo28⟩ := Kd.R_slice HO343.out; subst eo28; obtain ⟨Ao29, co29, eo29⟩ := Kd.R_slice HO347.out; subst eo29) | (go_at_call 8; (with_reducible refine (laws_hSame.calls kj8 _ _ t340 _ _ t344 true _ ?side1 ?side2 ?side3 ?side4 A18.out).mono ?_); (case side1 => repeat (first | exact (Kd.R_reads' HO343.out).2.2 | (with_reducible refine Kd.C_alloc ?_ _) | (with_reducible refine Kd.C_drewN ?_ _) | (with_reducible refine Kd.C_drew ?_))); (case side2 => exact (Kd.R_reads' HO343.out).2.1); (case side3 => repeat (first | exact (Kd.R_reads' HO347.out).2.2 | (with_reducible refine Kd.C_alloc ?_ _) | (with_reducible refine Kd.C_drewN ?_ _) | (with_reducible refine Kd.C_drew ?_))); (case side4 => exact (Kd.R_reads' HO347.out).2.1); rintro e w' ⟨rfl, ⟨nd, rfl⟩⟩; (try first | exact ⟨rfl, _, World.drewN_drewN _ _ _⟩ | exact ⟨rfl, _, Eq.trans (World.drewN_drewN _ _ _) (congrArg (World.drewN _) (Nat.add_assoc _ _ _))⟩)))
        repeat (go_quiet (first | (go_at_call 4; (with_reducible refine (impl_RankOfPace.calls _ _ l0 t340 t341 _ ?side1 ?side2 A13.out).mono ?_); (case side1 => repeat (first | exact (Kd.C_below HR0.out HB.out) | (with_reducible refine Kd.C_alloc ?_ _) | (with_reducible refine Kd.C_drewN ?_ _) | (with_reducible refine Kd.C_drew ?_))); (case side2 => exact HC0.out); rintro e w24 ⟨v342, rfl, ho0, hb⟩; have n0_ := Aside0.mk (Kd.R_lower ho0 (below_size (by repeat (first | (with_reducible first | exact HB.out | apply below_alloc | apply pw_below_drewN | apply below_drew1) | exact HB.out)))); have n1_ := Aside0.mk (below_step (by repeat (first | (with_reducible first | exact HB.out | apply below_alloc | apply pw_below_drewN | apply below_drew1) | exact HB.out)) hb); clear HB; have HO343 := n0_; have HB := n1_; clear n0_ n1_; (try clear hb); (try clear hb2); (try clear hk); (try clear hi); (try clear ho0)) | (go_at_call 5; (with_reducible refine (spec_RankOfPace.calls kj8 _ _ l0 t344 t345 _ ?side1 ?side2 A14.out).mono ?_); (case side1 => repeat (first | exact (Kd.C_below HR0.out HB.out) | (with_reducible refine Kd.C_alloc ?_ _) | (with_reducible refine Kd.C_drewN ?_ _) | (with_reducible refine Kd.C_drew ?_))); (case side2 => exact HC0.out); rintro e w25 ⟨v346, rfl, ho0, hb⟩; have n0_ := Aside0.mk (Kd.R_elder' (by (with_reducible repeat (first | apply Kd.R_alloc | apply Kd.R_drewN | apply Kd.R_drew)); exact HO343.out) (Kd.R_base ho0) hb); have n1_ := Aside0.mk (Kd.R_lower (Kd.R_new' ho0 (Kd.R_lt (by (with_reducible repeat (first | apply Kd.R_alloc | apply Kd.R_drewN | apply Kd.R_drew)); exact HO343.out))) (below_size (by repeat (first | (with_reducible first | exact HB.out | apply below_alloc | apply pw_below_drewN | apply below_drew1) | exact HB.out)))); have n2_ := Aside0.mk (below_step (by repeat (first | (with_reducible first | exact HB.out | apply below_alloc | apply pw_below_drewN | apply below_drew1) | exact HB.out)) hb); clear HO343; clear HB; have HO343 := n0_; have HO347 := n1_; have HB := n2_; clear n0_ n1_ n2_; (try clear hb); (try clear hb2); (try clear hk); (try clear hi); (try clear ho0)) | (go_at_call 6; (with_reducible refine (impl_HasEvenRound.calls kj8 _ _ l0 t348 t349 _ ?side1 ?side2 A15.out).mono ?_); (case side1 => repeat (first | exact (Kd.C_below HR0.out HB.out) | (with_reducible refine Kd.C_alloc ?_ _) | (with_reducible refine Kd.C_drewN ?_ _) | (with_reducible refine Kd.C_drew ?_))); (case side2 => exact HC0.out); rintro e w26 ⟨rfl, hb⟩; have n0_ := Aside0.mk (Kd.R_below (by (with_reducible repeat (first | apply Kd.R_alloc | apply Kd.R_drewN | apply Kd.R_drew)); exact HO343.out) hb); have n1_ := Aside0.mk (Kd.R_below (by (with_reducible repeat (first | apply Kd.R_alloc | apply Kd.R_drewN | apply Kd.R_drew)); exact HO347.out) hb); have n2_ := Aside0.mk (below_step (by repeat (first | (with_reducible first | exact HB.out | apply below_alloc | apply pw_below_drewN | apply below_drew1) | exact HB.out)) hb); clear HO343; clear HO347; clear HB; have HO343 := n0_; have HO347 := n1_; have HB := n2_; clear n0_ n1_ n2_; (try clear hb); (try clear hb2); (try clear hk); (try clear hi)) | (go_at_call 7; (with_reducible refine (spec_HasEvenRound.calls kj8 _ _ l0 t350 t351 _ ?side1 ?side2 A16.out).mono ?_); (case side1 => repeat (first | exact (Kd.C_below HR0.out HB.out) | (with_reducible refine Kd.C_alloc ?_ _) | (with_reducible refine Kd.C_drewN ?_ _) | (with_reducible refine Kd.C_drew ?_))); (case side2 => exact HC0.out); rintro e w27 ⟨rfl, hb⟩; have n0_ := Aside0.mk (Kd.R_below (by (with_reducible repeat (first | apply Kd.R_alloc | apply Kd.R_drewN | apply Kd.R_drew)); exact HO343.out) hb); have n1_ := Aside0.mk (Kd.R_below (by (with_reducible repeat (first | apply Kd.R_alloc | apply Kd.R_drewN | apply Kd.R_drew)); exact HO347.out) hb); have n2_ := Aside0.mk (below_step (by repeat (first | (with_reducible first | exact HB.out | apply below_alloc | apply pw_below_drewN | apply below_drew1) | exact HB.out)) hb); clear HO343; clear HO347; clear HB; have HO343 := n0_; have HO347 := n1_; have HB := n2_; clear n0_ n1_ n2_; (try clear hb); (try clear hb2); (try clear hk); (try clear hi); obtain ⟨Ao28, co28, eo28⟩ := Kd.R_slice HO343.out; subst eo28; obtain ⟨Ao29, co29, eo29⟩ := Kd.R_slice HO347.out; subst eo29) | (go_at_call 8; (with_reducible refine (laws_hSame.calls kj8 _ _ t340 _ _ t344 true _ ?side1 ?side2 ?side3 ?side4 A18.out).mono ?_); (case side1 => repeat (first | exact (Kd.R_reads' HO343.out).2.2 | (with_reducible refine Kd.C_alloc ?_ _) | (with_reducible refine Kd.C_drewN ?_ _) | (with_reducible refine Kd.C_drew ?_))); (case side2 => exact (Kd.R_reads' HO343.out).2.1); (case side3 => repeat (first | exact (Kd.R_reads' HO347.out).2.2 | (with_reducible refine Kd.C_alloc ?_ _) | (with_reducible refine Kd.C_drewN ?_ _) | (with_reducible refine Kd.C_drew ?_))); (case side4 => exact (Kd.R_reads' HO347.out).2.1); rintro e w' ⟨rfl, ⟨nd, rfl⟩⟩; (try first | exact ⟨rfl, _, World.drewN_drewN _ _ _⟩ | exact ⟨rfl, _, Eq.trans (World.drewN_drewN _ _ _) (congrArg (World.drewN _) (Nat.add_assoc _ _ _))⟩))); go_upto_if 130 with (first | (go_at_call 4; (with_reducible refine (impl_RankOfPace.calls _ _ l0 t340 t341 _ ?side1 ?side2 A13.out).mono ?_); (case side1 => repeat (first | exact (Kd.C_below HR0.out HB.out) | (with_reducible refine Kd.C_alloc ?_ _) | (with_reducible refine Kd.C_drewN ?_ _) | (with_reducible refine Kd.C_drew ?_))); (case side2 => exact HC0.out); rintro e w24 ⟨v342, rfl, ho0, hb⟩; have n0_ := Aside0.mk (Kd.R_lower ho0 (below_size (by repeat (first | (with_reducible first | exact HB.out | apply below_alloc | apply pw_below_drewN | apply below_drew1) | exact HB.out)))); have n1_ := Aside0.mk (below_step (by repeat (first | (with_reducible first | exact HB.out | apply below_alloc | apply pw_below_drewN | apply below_drew1) | exact HB.out)) hb); clear HB; have HO343 := n0_; have HB := n1_; clear n0_ n1_; (try clear hb); (try clear hb2); (try clear hk); (try clear hi); (try clear ho0)) | (go_at_call 5; (with_reducible refine (spec_RankOfPace.calls kj8 _ _ l0 t344 t345 _ ?side1 ?side2 A14.out).mono ?_); (case side1 => repeat (first | exact (Kd.C_below HR0.out HB.out) | (with_reducible refine Kd.C_alloc ?_ _) | (with_reducible refine Kd.C_drewN ?_ _) | (with_reducible refine Kd.C_drew ?_))); (case side2 => exact HC0.out); rintro e w25 ⟨v346, rfl, ho0, hb⟩; have n0_ := Aside0.mk (Kd.R_elder' (by (with_reducible repeat (first | apply Kd.R_alloc | apply Kd.R_drewN | apply Kd.R_drew)); exact HO343.out) (Kd.R_base ho0) hb); have n1_ := Aside0.mk (Kd.R_lower (Kd.R_new' ho0 (Kd.R_lt (by (with_reducible repeat (first | apply Kd.R_alloc | apply Kd.R_drewN | apply Kd.R_drew)); exact HO343.out))) (below_size (by repeat (first | (with_reducible first | exact HB.out | apply below_alloc | apply pw_below_drewN | apply below_drew1) | exact HB.out)))); have n2_ := Aside0.mk (below_step (by repeat (first | (with_reducible first | exact HB.out | apply below_alloc | apply pw_below_drewN | apply below_drew1) | exact HB.out)) hb); clear HO343; clear HB; have HO343 := n0_; have HO347 := n1_; have HB := n2_; clear n0_ n1_ n2_; (try clear hb); (try clear hb2); (try clear hk); (try clear hi); (try clear ho0)) | (go_at_call 6; (with_reducible refine (impl_HasEvenRound.calls kj8 _ _ l0 t348 t349 _ ?side1 ?side2 A15.out).mono ?_); (case side1 => repeat (first | exact (Kd.C_below HR0.out HB.out) | (with_reducible refine Kd.C_alloc ?_ _) | (with_reducible refine Kd.C_drewN ?_ _) | (with_reducible refine Kd.C_drew ?_))); (case side2 => exact HC0.out); rintro e w26 ⟨rfl, hb⟩; have n0_ := Aside0.mk (Kd.R_below (by (with_reducible repeat (first | apply Kd.R_alloc | apply Kd.R_drewN | apply Kd.R_drew)); exact HO343.out) hb); have n1_ := Aside0.mk (Kd.R_below (by (with_reducible repeat (first | apply Kd.R_alloc | apply Kd.R_drewN | apply Kd.R_drew)); exact HO347.out) hb); have n2_ := Aside0.mk (below_step (by repeat (first | (with_reducible first | exact HB.out | apply below_alloc | apply pw_below_drewN | apply below_drew1) | exact HB.out)) hb); clear HO343; clear HO347; clear HB; have HO343 := n0_; have HO347 := n1_; have HB := n2_; clear n0_ n1_ n2_; (try clear hb); (try clear hb2); (try clear hk); (try clear hi)) | (go_at_call 7; (with_reducible refine (spec_HasEvenRound.calls kj8 _ _ l0 t350 t351 _ ?side1 ?side2 A16.out).mono ?_); (case side1 => repeat (first | exact (Kd.C_below HR0.out HB.out) | (with_reducible refine Kd.C_alloc ?_ _) | (with_reducible refine Kd.C_drewN ?_ _) | (with_reducible refine Kd.C_drew ?_))); (case side2 => exact HC0.out); rintro e w27 ⟨rfl, hb⟩; have n0_ := Aside0.mk (Kd.R_below (by (with_reducible repeat (first | apply Kd.R_alloc | apply Kd.R_drewN | apply Kd.R_drew)); exact HO343.out) hb); have n1_ := Aside0.mk (Kd.R_below (by (with_reducible repeat (first | apply Kd.R_alloc | apply Kd.R_drewN | apply Kd.R_drew)); exact HO347.out) hb); have n2_ := Aside0.mk (below_step (by repeat (first | (with_reducible first | exact HB.out | apply below_alloc | apply pw_below_drewN | apply below_drew1) | exact HB.out)) hb); clear HO343; clear HO347; clear HB; have HO343 := n0_; have HO347 := n1_; have HB := n2_; clear n0_ n1_ n2_; (try clear hb); (try clear hb2); (try clear hk); (try clear hi); obtain ⟨Ao28, co28, eo28⟩ := Kd.R_slice HO343.out; subst eo28; obtain ⟨Ao29, co29, eo29⟩ := Kd.R_slice HO347.out; subst eo29) | (go_at_call 8; (with_reducible refine (laws_hSame.calls kj8 _ _ t340 _ _ t344 true _ ?side1 ?side2 ?side3 ?side4 A18.out).mono ?_); (case side1 => repeat (first | exact (Kd.R_reads' HO343.out).2.2 | (with_reducible refine Kd.C_alloc ?_ _) | (with_reducible refine Kd.C_drewN ?_ _) | (with_reducible refine Kd.C_drew ?_))); (case side2 => exact (Kd.R_reads' HO343.out).2.1); (case side3 => repeat (first | exact (Kd.R_reads' HO347.out).2.2 | (with_reducible refine Kd.C_alloc ?_ _) | (with_reducible refine Kd.C_drewN ?_ _) | (with_reducible refine Kd.C_drew ?_))); (case side4 => exact (Kd.R_reads' HO347.out).2.1); rintro e w' ⟨rfl, ⟨nd, rfl⟩⟩; (try first | exact ⟨rfl, _, World.drewN_drewN _ _ _⟩ | exact ⟨rfl, _, Eq.trans (World.drewN_drewN _ _ _) (congrArg (World.drewN _) (Nat.add_assoc _ _ _))⟩))))
        (try simp only [Act.put, List.setIfInBounds_toArray, List.set_cons_zero, List.set_cons_succ])
        refine wp_cut (laws_FnPairsChangeOfAll.C4 k A0 c0 l0 A1 c1 l1 a2 A3 c3 l3 a4 a5 a6 a7 r w kj8) ?rest ?first
        case first =>
         intro J K' hJ hK'
         exact laws_FnPairsChangeOfAll.first4 k A0 c0 l0 A1 c1 l1 a2 A3 c3 l3 a4 a5 a6 a7 r w HR0 HC0 HR1 HC1 HR3 HC3 kj8 HJ8 t340 t341 A13 t344 A18 HC23 w27 HB Ao28 co28 Ao29 co29 HO343 nd J K' hJ hK' _ (laws_FnPairsChangeOfAll.C4a.meet k A0 c0 l0 A1 c1 l1 a2 A3 c3 l3 a4 a5 a6 a7 r w t340 t341 Ao28 co28 rfl rfl rfl rfl rfl rfl rfl rfl rfl rfl rfl trivial)
        case rest =>
         intro a' wc hinv
         go_step
         exact laws_FnPairsChangeOfAll.rest4 k A0 c0 l0 A1 c1 l1 a2 A3 c3 l3 a4 a5 a6 a7 r w HR0 HC0 HR1 HC1 HR3 HC3 kj8 HJ8 wc a' hinv
    ·replace c19 := Bool.eq_false_iff.mpr c19
     subst c19
     have H1 : (none) = some r := by rw [if_neg (show ¬ (false = true) by decide)] at H; exact H
     clear H
     have H := H1
     clear H1
     exact absurd H (by simp)
set_option maxHeartbeats 8000000 in
set_option maxRecDepth 100000 in
theorem laws_FnPairsChangeOfAll.calls (k : Nat) (A0 : Option Addr) (c0 : Nat) (l0 : List Int) (A1 : Option Addr) (c1 : Nat) (l1 : List Int) (a2 : Int) (A3 : Option Addr) (c3 : Nat) (l3 : List Int) (a4 : Int) (a5 : Int) (a6 : Int) (a7 : Int) (r : Bool) (w : World) (hr0 : Kd.C (Kd.int .i64) w A0 l0.length l0) (hc0 : l0.length ≤ c0) (hr1 : Kd.C (Kd.int .i64) w A1 l1.length l1) (hc1 : l1.length ≤ c1) (hr3 : Kd.C (Kd.int .i64) w A3 l3.length l3) (hc3 : l3.length ≤ c3) (h : laws_FnPairsChangeOfAll.f k l0 l1 a2 l3 a4 a5 a6 a7 = some r) :
    Calls Try.prog 3 #[.slice A0 l0.length c0, .slice A1 l1.length c1, .int .i64 a2, .slice A3 l3.length c3, .int .i64 a4, .int .i64 a5, .int .i64 a6, .int .i64 a7] w fun e w' => e = .returned (.bool r) ∧ Below w.heap.size w w' := by
 have HR0 := Aside0.mk hr0
 have HC0 := Aside0.mk hc0
 clear hr0 hc0
 have HR1 := Aside0.mk hr1
 have HC1 := Aside0.mk hc1
 clear hr1 hc1
 have HR3 := Aside0.mk hr3
 have HC3 := Aside0.mk hc3
 clear hr3 hc3
 have HB := Aside0.mk (Below.refl w.heap.size w)
 have H : (if (l0.length : Int) > 10000 then (laws_FnPairsChangeOfAll.j0 k l0 l1 a2 l3 a4 a5 a6 a7 true) else (if (l1.length : Int) > 10000 then (laws_FnPairsChangeOfAll.j0 k l0 l1 a2 l3 a4 a5 a6 a7 true) else (laws_FnPairsChangeOfAll.j0 k l0 l1 a2 l3 a4 a5 a6 a7 (decide ((l3.length : Int) > 10000))))) = some r := h
 clear h
 have HC9 := Aside0.mk H
 clear H
 go_enter Try.func3, Try.ntmps3
 go_upto_region 1 with (fail)
 repeat (go_quiet (fail); go_upto_region 1 with (fail))
 refine wp_cut (laws_FnPairsChangeOfAll.C0 k A0 c0 l0 A1 c1 l1 a2 A3 c3 l3 a4 a5 a6 a7 r w) ?rest ?first
 case first =>
  intro J K' hJ hK'
  have H := HC9.out
  clear HC9
  by_cases c10 : (l0.length : Int) > 10000
  ·rw [if_pos c10] at H
   have c10b0 : decide (10000 < (l0.length : Int)) = true := decide_eq_true c10
   have c10b1 : decide (10000 < l0.length) = true := decide_eq_true (by omega)
   clear c10
   (first | rw [c10b0] | (simp only [i64_w, i32_w]; rw [c10b0]) | skip)
   have H' := Aside0.mk H
   clear H
   go_wp2
   repeat (go_quiet (fail); try go_wp2)
   refine Met.intro ?_
   go_step
   refine laws_FnPairsChangeOfAll.C0.meet _ _ _ _ _ _ _ _ _ _ _ _ _ _ _ _ _  rfl rfl rfl rfl rfl rfl rfl rfl rfl rfl ?_
   exact ⟨_, (true), (by first | rfl | (simp; done) | (simp [*]; done)), H', ⟨by first | omega | exact Nat.le_refl _⟩, ⟨by repeat (first | (with_reducible first | exact HB.out | apply below_alloc | apply pw_below_drewN | apply below_drew1) | exact HB.out)⟩⟩
  ·rw [if_neg c10] at H
   have c10b0 : decide (10000 < (l0.length : Int)) = false := decide_eq_false c10
   have c10b1 : decide (10000 < l0.length) = false := decide_eq_false (by omega)
   clear c10
   (first | rw [c10b0] | (simp only [i64_w, i32_w]; rw [c10b0]) | skip)
   by_cases c11 : (l1.length : Int) > 10000
   ·rw [if_pos c11] at H
    have c11b0 : decide (10000 < (l1.length : Int)) = true := decide_eq_true c11
    have c11b1 : decide (10000 < l1.length) = true := decide_eq_true (by omega)
    clear c11
    have H' := Aside0.mk H
    clear H
    go_wp2
    repeat (go_quiet (fail); try go_wp2)
    refine Met.intro ?_
    go_step
    refine laws_FnPairsChangeOfAll.C0.meet _ _ _ _ _ _ _ _ _ _ _ _ _ _ _ _ _  rfl rfl rfl rfl rfl rfl rfl rfl rfl rfl ?_
    exact ⟨_, (true), (by first | rfl | (simp; done) | (simp [*]; done)), H', ⟨by first | omega | exact Nat.le_refl _⟩, ⟨by repeat (first | (with_reducible first | exact HB.out | apply below_alloc | apply pw_below_drewN | apply below_drew1) | exact HB.out)⟩⟩
   ·rw [if_neg c11] at H
    have c11b0 : decide (10000 < (l1.length : Int)) = false := decide_eq_false c11
    have c11b1 : decide (10000 < l1.length) = false := decide_eq_false (by omega)
    clear c11
    have H' := Aside0.mk H
    clear H
    go_wp2
    repeat (go_quiet (fail); try go_wp2)
    refine Met.intro ?_
    go_step
    refine laws_FnPairsChangeOfAll.C0.meet _ _ _ _ _ _ _ _ _ _ _ _ _ _ _ _ _  rfl rfl rfl rfl rfl rfl rfl rfl rfl rfl ?_
    exact ⟨_, (decide ((l3.length : Int) > 10000)), (by first | rfl | (simp; done) | (simp [*]; done)), H', ⟨by first | omega | exact Nat.le_refl _⟩, ⟨by repeat (first | (with_reducible first | exact HB.out | apply below_alloc | apply pw_below_drewN | apply below_drew1) | exact HB.out)⟩⟩
 case rest =>
  intro a' wc hinv
  go_step
  exact laws_FnPairsChangeOfAll.rest0 k A0 c0 l0 A1 c1 l1 a2 A3 c3 l3 a4 a5 a6 a7 r w HR0 HC0 HR1 HC1 HR3 HC3 _ (by assumption) wc a' hinv

end Go.Proofs.Ytmejodmokogblaa.G
