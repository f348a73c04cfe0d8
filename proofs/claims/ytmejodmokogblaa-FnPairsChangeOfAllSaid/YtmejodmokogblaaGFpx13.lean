-- Laid by wip/gprint.py (the session's own program, round the kit's printer) for this claim.
import Derived.Test.YtmejodmokogblaaGFpx0
import Derived.Test.YtmejodmokogblaaGFpx1
import Derived.Test.YtmejodmokogblaaGFpx2
import Derived.Test.YtmejodmokogblaaGFpx4
import Derived.Test.YtmejodmokogblaaGFpx5
import Derived.Test.YtmejodmokogblaaGFpx6
import Derived.Test.YtmejodmokogblaaGFpx7
import Derived.Test.YtmejodmokogblaaGFpx8
import Derived.Test.YtmejodmokogblaaGFpx9
import Derived.Test.YtmejodmokogblaaGFpx10
namespace Go.Proofs.Ytmejodmokogblaa.G
open Go.RowKit Go.Proofs.YtmejodmokogblaaW.PrintWords Go.Proofs.YtmejodmokogblaaW.PrintLast Go.Proofs.YtmejodmokogblaaW.PrintMore
attribute [local go_sem] max2_int min2_int max_two min_two max_three min_three max_four min_four   -- for this text's walks alone
set_option linter.unusedVariables false
set_option linter.unusedSimpArgs false

/-! ### laws_FnPairsChangeOfAll: its walk, the order -/
set_option maxHeartbeats 8000000 in
set_option maxRecDepth 100000 in
theorem laws_FnPairsChangeOfAll.first4 (k : Nat) (A0 : Option Addr) (c0 : Nat) (l0 : List Int) (A1 : Option Addr) (c1 : Nat) (l1 : List Int) (a2 : Int) (A3 : Option Addr) (c3 : Nat) (l3 : List Int) (a4 a5 a6 a7 : Int) (r : Bool) (w : World) (HR0 : Aside0 (Kd.C (Kd.int .i64) w A0 l0.length l0)) (HC0 : Aside0 (l0.length ≤ c0)) (HR1 : Aside0 (Kd.C (Kd.int .i64) w A1 l1.length l1)) (HC1 : Aside0 (l1.length ≤ c1)) (HR3 : Aside0 (Kd.C (Kd.int .i64) w A3 l3.length l3)) (HC3 : Aside0 (l3.length ≤ c3)) (kj8 : Nat) (HJ8 : Aside0 (kj8 + 1 ≤ k)) (t340 : List Int) (t341 : Bool) (A13 : Aside0 (impl_RankOfPace.f l0 = some (t340, t341))) (t344 : List Int) (A18 : Aside0 (laws_hSame.f kj8 t340 t344 = some true)) (HC23 : Aside0 ((if t341 = true then (laws_FnPairsChangeOfAll.l0 kj8 l0 l1 a2 l3 a4 a5 a6 a7 t340 1) else (laws_FnPairsChangeOfAll.j4 kj8 l1 a2 l3 a4 a5 a6 a7)) = some r)) (w27 : World) (HB : Aside0 (Below w.heap.size w w27)) (Ao28 : Option Addr) (co28 : Nat) (Ao29 : Option Addr) (co29 : Nat) (HO343 : Aside0 (Kd.R (Kd.int .i64) 3 w27 w.heap.size (fun kk => True ∧ some kk ≠ (Value.slice Ao29 t344.length co29).ownBlock) (.slice Ao28 t340.length co28) t340)) (nd : Nat) (J K' : Act → World → Prop) (hJ : ∀ aa ww, laws_FnPairsChangeOfAll.C4 k A0 c0 l0 A1 c1 l1 a2 A3 c3 l3 a4 a5 a6 a7 r w kj8 aa ww → J aa ww) (hK' : ∀ aa ww, Met J aa ww → K' aa ww) (a' : Act) (hinv : laws_FnPairsChangeOfAll.C4a k A0 c0 l0 A1 c1 l1 a2 A3 c3 l3 a4 a5 a6 a7 r w t340 t341 Ao28 co28 a' (w27.drewN nd)) :
    Code.wp Try.prog (cutNx 1 (cutFs (cutNx 7 (Try.f3.body.getD .skip)))) (Exit.then K' (bodyPost Try.prog Try.f3 fun e w' => e = .returned (.bool r) ∧ Below w.heap.size w w')) a' (w27.drewN nd) := by
 obtain ⟨uu, rfl, p0, p1, p2, p3, p4, p5, p6, p7, p17, p130, hcut⟩ := hinv
 rw [cutLit, p0, p1, p2, p3, p4, p5, p6, p7, p17, p130]
 clear p0 p1 p2 p3 p4 p5 p6 p7 p17 p130
 conv => enter [2]; whnf
 have H := HC23.out
 clear HC23
 by_cases c30 : t341 = true
 ·subst c30
  have H1 : (laws_FnPairsChangeOfAll.l0 kj8 l0 l1 a2 l3 a4 a5 a6 a7 t340 1) = some r := by rw [if_pos rfl] at H; exact H
  clear H
  have H := H1
  clear H1
  have H' := Aside0.mk H
  clear H
  go_wp2
  repeat (go_quiet (fail); try go_wp2)
  go_loopg [25] kj8 (fun kq v25 w' => ∃ (x25_2 : Int), v25 = .int .i64 x25_2 ∧ Aside0 (laws_FnPairsChangeOfAll.l0 kq l0 l1 a2 l3 a4 a5 a6 a7 t340 x25_2 = some r) ∧ Aside0 (kq ≤ kj8) ∧ Aside0 (Kd.R (Kd.int .i64) 3 w' w.heap.size (fun _ => True) (.slice Ao28 t340.length co28) t340) ∧ Aside0 (Below w.heap.size w w'))
  case atStart => exact ⟨(1), (by first | rfl | (simp; done) | (simp [*]; done)), H', ⟨Nat.le_refl _⟩, ⟨by (with_reducible repeat (first | apply Kd.R_alloc | apply Kd.R_drewN | apply Kd.R_drew)); exact Kd.R_mono HO343.out (fun _ hk => trivial)⟩, ⟨by repeat (first | (with_reducible first | exact HB.out | apply below_alloc | apply pw_below_drewN | apply below_drew1) | exact HB.out)⟩⟩
  case round =>
   clear H'
   try clear c1
   try clear c2
   try clear p2
   try clear c3
   try clear c10
   try clear c10b0
   try clear c10b1
   try clear c11
   try clear c11b0
   try clear c11b1
   try clear c12
   try clear c17
   try clear c17b0
   try clear c17b1
   try clear c17b2
   try clear c19
   try clear c20
   try clear c20b0
   try clear c20b1
   try clear c20b2
   try clear c21
   try clear c21b0
   try clear c21b1
   try clear c21b2
   try clear c22
   try clear c22b0
   try clear c22b1
   try clear c22b2
   try clear c30
   try clear p2
   obtain ⟨x25_2, rfl, HA, HK2, HO_17, HB⟩ := hrel
   cases gk with
   | zero => exact absurd HA.out (by simp [laws_FnPairsChangeOfAll.l0])
   | succ k2 =>
    have H := HA.out
    clear HA
    simp only [laws_FnPairsChangeOfAll.l0] at H
    by_cases c31 : x25_2 < (t340.length : Int)
    ·rw [if_pos c31] at H
     have c31b0 : decide (x25_2 < (t340.length : Int)) = true := decide_eq_true c31
     clear c31
     (first | rw [c31b0] | (simp only [i64_w, i32_w]; rw [c31b0]) | skip)
     obtain ⟨ji32, hji32⟩ : ∃ j_ : Int, (wrap64 (x25_2 - 1)) = j_ := ⟨_, rfl⟩
     replace H : (if 0 ≤ (ji32) then (if (ji32) < (t340.length : Int) then (if 0 ≤ (rd t340 (ji32)) then (if (rd t340 (ji32)) < (l0.length : Int) then (if 0 ≤ x25_2 then (if 0 ≤ (rd t340 x25_2) then (if (rd t340 x25_2) < (l0.length : Int) then (if (rd l0 (rd t340 (ji32))) > (rd l0 (rd t340 x25_2)) then (none) else (if (rd l0 (rd t340 (ji32))) = (rd l0 (rd t340 x25_2)) then (if (rd t340 (ji32)) ≥ (rd t340 x25_2) then (none) else (laws_FnPairsChangeOfAll.l0 k2 l0 l1 a2 l3 a4 a5 a6 a7 t340 (wrap64 (x25_2 + 1)))) else (laws_FnPairsChangeOfAll.l0 k2 l0 l1 a2 l3 a4 a5 a6 a7 t340 (wrap64 (x25_2 + 1))))) else (none)) else (none)) else (none)) else (none)) else (none)) else (none)) else (none)) = some r := by first | (rw [hji32] at H; exact H) | (simp only [hji32] at H ⊢; exact H)
     have hji32w : (IntKind.i64.wrap (x25_2 - 1)) = ji32 := (i64_w _).trans hji32
     by_cases c33 : 0 ≤ (ji32)
     ·rw [if_pos c33] at H
      have c33b0 : decide (0 ≤ (ji32)) = true := decide_eq_true c33
      clear c33
      by_cases c34 : (ji32) < (t340.length : Int)
      ·rw [if_pos c34] at H
       have c34b0 : decide ((ji32) < (t340.length : Int)) = true := decide_eq_true c34
       clear c34
       by_cases c35 : 0 ≤ (rd t340 (ji32))
       ·rw [if_pos c35] at H
        have c35b0 : decide (0 ≤ (rd t340 (ji32))) = true := decide_eq_true c35
        clear c35
        by_cases c36 : (rd t340 (ji32)) < (l0.length : Int)
        ·rw [if_pos c36] at H
         have c36b0 : decide ((rd t340 (ji32)) < (l0.length : Int)) = true := decide_eq_true c36
         clear c36
         by_cases c37 : 0 ≤ x25_2
         ·rw [if_pos c37] at H
          have c37b0 : decide (0 ≤ x25_2) = true := decide_eq_true c37
          clear c37
          by_cases c38 : 0 ≤ (rd t340 x25_2)
          ·rw [if_pos c38] at H
           have c38b0 : decide (0 ≤ (rd t340 x25_2)) = true := decide_eq_true c38
           clear c38
           by_cases c39 : (rd t340 x25_2) < (l0.length : Int)
           ·rw [if_pos c39] at H
            have c39b0 : decide ((rd t340 x25_2) < (l0.length : Int)) = true := decide_eq_true c39
            clear c39
            by_cases c40 : (rd l0 (rd t340 (ji32))) > (rd l0 (rd t340 x25_2))
            ·rw [if_pos c40] at H
             exact absurd H (by simp)
            ·rw [if_neg c40] at H
             have c40b0 : decide ((rd l0 (rd t340 x25_2)) < (rd l0 (rd t340 (ji32)))) = false := decide_eq_false c40
             clear c40
             by_cases c41 : (rd l0 (rd t340 (ji32))) = (rd l0 (rd t340 x25_2))
             ·rw [if_pos c41] at H
              have c41b0 : ((rd l0 (rd t340 (ji32))) == (rd l0 (rd t340 x25_2))) = true := beq_iff_eq.mpr c41
              have c41b1 : ((rd l0 (rd t340 (ji32))) != (rd l0 (rd t340 x25_2))) = false := bne_eq_false_iff_eq.mpr c41
              clear c41
              by_cases c42 : (rd t340 (ji32)) ≥ (rd t340 x25_2)
              ·rw [if_pos c42] at H
               exact absurd H (by simp)
              ·rw [if_neg c42] at H
               have c42b0 : decide ((rd t340 x25_2) ≤ (rd t340 (ji32))) = false := decide_eq_false c42
               clear c42
               have H' := Aside0.mk H
               clear H
               have p353 : 0 ≤ ((ji32) : Int) := of_decide_eq_true (by first | (with_reducible assumption) | assumption)
               have q353 : (ji32) < (t340.length : Int) := of_decide_eq_true (by first | (with_reducible assumption) | assumption)
               obtain ⟨ad353, e353, hx353_0⟩ := Kd.at_int (Kd.R_reads' HO_17.out).2.2 (ji32) p353 q353
               cases e353
               replace p353 := eq_true p353
               replace q353 := eq_true q353
               have p354 : 0 ≤ ((rd t340 (ji32)) : Int) := of_decide_eq_true (by first | (with_reducible assumption) | assumption)
               have q354 : (rd t340 (ji32)) < (l0.length : Int) := of_decide_eq_true (by first | (with_reducible assumption) | assumption)
               obtain ⟨ad354, e354, hx354_0⟩ := Kd.at_int HR0.out (rd t340 (ji32)) p354 q354
               cases e354
               replace hx354_0 := (HB.out.cell (World.block_lt_of_cell? w _ hx354_0)).trans hx354_0
               replace p354 := eq_true p354
               replace q354 := eq_true q354
               have p355 : 0 ≤ (x25_2 : Int) := of_decide_eq_true (by first | (with_reducible assumption) | assumption)
               have q355 : x25_2 < (t340.length : Int) := of_decide_eq_true (by first | (with_reducible assumption) | assumption)
               obtain ⟨ad355, e355, hx355_0⟩ := Kd.at_int (Kd.R_reads' HO_17.out).2.2 x25_2 p355 q355
               obtain rfl : ad353 = ad355 := (by injection e355)
               replace p355 := eq_true p355
               replace q355 := eq_true q355
               have p356 : 0 ≤ ((rd t340 x25_2) : Int) := of_decide_eq_true (by first | (with_reducible assumption) | assumption)
               have q356 : (rd t340 x25_2) < (l0.length : Int) := of_decide_eq_true (by first | (with_reducible assumption) | assumption)
               obtain ⟨ad356, e356, hx356_0⟩ := Kd.at_int HR0.out (rd t340 x25_2) p356 q356
               obtain rfl : ad354 = ad356 := (by injection e356)
               replace hx356_0 := (HB.out.cell (World.block_lt_of_cell? w _ hx356_0)).trans hx356_0
               replace p356 := eq_true p356
               replace q356 := eq_true q356
               have p357 : 0 ≤ ((ji32) : Int) := of_decide_eq_true (by first | (with_reducible assumption) | assumption)
               have q357 : (ji32) < (t340.length : Int) := of_decide_eq_true (by first | (with_reducible assumption) | assumption)
               obtain ⟨ad357, e357, hx357_0⟩ := Kd.at_int (Kd.R_reads' HO_17.out).2.2 (ji32) p357 q357
               obtain rfl : ad353 = ad357 := (by injection e357)
               replace p357 := eq_true p357
               replace q357 := eq_true q357
               have p358 : 0 ≤ (x25_2 : Int) := of_decide_eq_true (by first | (with_reducible assumption) | assumption)
               have q358 : x25_2 < (t340.length : Int) := of_decide_eq_true (by first | (with_reducible assumption) | assumption)
               obtain ⟨ad358, e358, hx358_0⟩ := Kd.at_int (Kd.R_reads' HO_17.out).2.2 x25_2 p358 q358
               obtain rfl : ad353 = ad358 := (by injection e358)
               replace p358 := eq_true p358
               replace q358 := eq_true q358
               go_wp2
               repeat (go_quiet (fail); try go_wp2)
               go_roundg k2
               case measure => have := HJ8.out; have := HK2.out; omega
               case rel => exact ⟨(wrap64 (x25_2 + 1)), (by first | rfl | (simp; done) | (simp [*]; done)), H', ⟨by have := HJ8.out; have := HK2.out; omega⟩, ⟨by (with_reducible repeat (first | apply Kd.R_alloc | apply Kd.R_drewN | apply Kd.R_drew)); exact HO_17.out⟩, ⟨by repeat (first | (with_reducible first | exact HB.out | apply below_alloc | apply pw_below_drewN | apply below_drew1) | exact HB.out)⟩⟩
             ·rw [if_neg c41] at H
              have c41b0 : ((rd l0 (rd t340 (ji32))) == (rd l0 (rd t340 x25_2))) = false := beq_eq_false_iff_ne.mpr c41
              have c41b1 : ((rd l0 (rd t340 (ji32))) != (rd l0 (rd t340 x25_2))) = true := bne_iff_ne.mpr c41
              have H' := Aside0.mk H
              clear H
              have p353 : 0 ≤ ((ji32) : Int) := of_decide_eq_true (by first | (with_reducible assumption) | assumption)
              have q353 : (ji32) < (t340.length : Int) := of_decide_eq_true (by first | (with_reducible assumption) | assumption)
              obtain ⟨ad353, e353, hx353_0⟩ := Kd.at_int (Kd.R_reads' HO_17.out).2.2 (ji32) p353 q353
              cases e353
              replace p353 := eq_true p353
              replace q353 := eq_true q353
              have p354 : 0 ≤ ((rd t340 (ji32)) : Int) := of_decide_eq_true (by first | (with_reducible assumption) | assumption)
              have q354 : (rd t340 (ji32)) < (l0.length : Int) := of_decide_eq_true (by first | (with_reducible assumption) | assumption)
              obtain ⟨ad354, e354, hx354_0⟩ := Kd.at_int HR0.out (rd t340 (ji32)) p354 q354
              cases e354
              replace hx354_0 := (HB.out.cell (World.block_lt_of_cell? w _ hx354_0)).trans hx354_0
              replace p354 := eq_true p354
              replace q354 := eq_true q354
              have p355 : 0 ≤ (x25_2 : Int) := of_decide_eq_true (by first | (with_reducible assumption) | assumption)
              have q355 : x25_2 < (t340.length : Int) := of_decide_eq_true (by first | (with_reducible assumption) | assumption)
              obtain ⟨ad355, e355, hx355_0⟩ := Kd.at_int (Kd.R_reads' HO_17.out).2.2 x25_2 p355 q355
              obtain rfl : ad353 = ad355 := (by injection e355)
              replace p355 := eq_true p355
              replace q355 := eq_true q355
              have p356 : 0 ≤ ((rd t340 x25_2) : Int) := of_decide_eq_true (by first | (with_reducible assumption) | assumption)
              have q356 : (rd t340 x25_2) < (l0.length : Int) := of_decide_eq_true (by first | (with_reducible assumption) | assumption)
              obtain ⟨ad356, e356, hx356_0⟩ := Kd.at_int HR0.out (rd t340 x25_2) p356 q356
              obtain rfl : ad354 = ad356 := (by injection e356)
              replace hx356_0 := (HB.out.cell (World.block_lt_of_cell? w _ hx356_0)).trans hx356_0
              replace p356 := eq_true p356
              replace q356 := eq_true q356
              go_wp2
              repeat (go_quiet (fail); try go_wp2)
              go_roundg k2
              case measure => have := HJ8.out; have := HK2.out; omega
              case rel => exact ⟨(wrap64 (x25_2 + 1)), (by first | rfl | (simp; done) | (simp [*]; done)), H', ⟨by have := HJ8.out; have := HK2.out; omega⟩, ⟨by (with_reducible repeat (first | apply Kd.R_alloc | apply Kd.R_drewN | apply Kd.R_drew)); exact HO_17.out⟩, ⟨by repeat (first | (with_reducible first | exact HB.out | apply below_alloc | apply pw_below_drewN | apply below_drew1) | exact HB.out)⟩⟩
           ·rw [if_neg c39] at H
            exact absurd H (by simp)
          ·rw [if_neg c38] at H
           exact absurd H (by simp)
         ·rw [if_neg c37] at H
          exact absurd H (by simp)
        ·rw [if_neg c36] at H
         exact absurd H (by simp)
       ·rw [if_neg c35] at H
        exact absurd H (by simp)
      ·rw [if_neg c34] at H
       exact absurd H (by simp)
     ·rw [if_neg c33] at H
      exact absurd H (by simp)
    ·rw [if_neg c31] at H
     have c31b0 : decide (x25_2 < (t340.length : Int)) = false := decide_eq_false c31
     clear c31
     (first | rw [c31b0] | (simp only [i64_w, i32_w]; rw [c31b0]) | skip)
     have H' := Aside0.mk H
     clear H
     go_wp2
     repeat (go_quiet (fail); try go_wp2)
     go_loopg [174] k2 (fun kq v174 w' => ∃ (x174_3 : Int), v174 = .int .i64 x174_3 ∧ Aside0 (laws_FnPairsChangeOfAll.l1 kq l0 l1 a2 l3 a4 a5 a6 a7 t340 (l0.length : Int) x174_3 = some r) ∧ Aside0 (kq ≤ k2) ∧ Aside0 (Kd.R (Kd.int .i64) 3 w' w.heap.size (fun _ => True) (.slice Ao28 t340.length co28) t340) ∧ Aside0 (Below w.heap.size w w'))
     case atStart => exact ⟨(0), (by first | rfl | (simp; done) | (simp [*]; done)), H', ⟨Nat.le_refl _⟩, ⟨by (with_reducible repeat (first | apply Kd.R_alloc | apply Kd.R_drewN | apply Kd.R_drew)); exact HO_17.out⟩, ⟨by repeat (first | (with_reducible first | exact HB.out | apply below_alloc | apply pw_below_drewN | apply below_drew1) | exact HB.out)⟩⟩
     case round =>
      clear H'
      try clear c1
      try clear c2
      try clear p2
      try clear c3
      try clear p3
      try clear q3
      try clear hx3
      try clear c4
      try clear p6
      try clear c10
      try clear c10b0
      try clear c10b1
      try clear c11
      try clear c11b0
      try clear c11b1
      try clear c12
      try clear c17
      try clear c17b0
      try clear c17b1
      try clear c17b2
      try clear c19
      try clear c20
      try clear c20b0
      try clear c20b1
      try clear c20b2
      try clear c21
      try clear c21b0
      try clear c21b1
      try clear c21b2
      try clear c22
      try clear c22b0
      try clear c22b1
      try clear c22b2
      try clear c30
      try clear c31
      try clear c31b0
      try clear c33
      try clear c33b0
      try clear c34
      try clear c34b0
      try clear c35
      try clear c35b0
      try clear p35
      try clear q35
      try clear hx35
      try clear c36
      try clear c36b0
      try clear c37
      try clear c37b0
      try clear c38
      try clear c38b0
      try clear c39
      try clear c39b0
      try clear c40
      try clear c40b0
      try clear c41
      try clear c41b0
      try clear c41b1
      try clear c42
      try clear c42b0
      try clear hx353_0
      try clear hx354_0
      try clear hx355_0
      try clear hx356_0
      try clear hx357_0
      try clear hx358_0
      try clear p2
      try clear p353
      try clear p354
      try clear p355
      try clear p356
      try clear p357
      try clear p358
      try clear q353
      try clear q354
      try clear q355
      try clear q356
      try clear q357
      try clear q358
      obtain ⟨x174_3, rfl, HA, HK3, HO_17, HB⟩ := hrel
      cases gk with
      | zero => exact absurd HA.out (by simp [laws_FnPairsChangeOfAll.l1])
      | succ k3 =>
       have H := HA.out
       clear HA
       simp only [laws_FnPairsChangeOfAll.l1] at H
       by_cases c43 : x174_3 < (l0.length : Int)
       ·rw [if_pos c43] at H
        have c43b0 : decide (x174_3 < (l0.length : Int)) = true := decide_eq_true c43
        clear c43
        replace H := Option.bind_eq_some_iff.mp H
        obtain ⟨t359, A440, H⟩ := H
        replace H : (if t359 = true then (laws_FnPairsChangeOfAll.l1 k3 l0 l1 a2 l3 a4 a5 a6 a7 t340 (l0.length : Int) (wrap64 (x174_3 + 1))) else (none)) = some r := H
        have A44 := Aside0.mk A440
        clear A440
        by_cases c45 : t359 = true
        ·subst c45
         have H1 : (laws_FnPairsChangeOfAll.l1 k3 l0 l1 a2 l3 a4 a5 a6 a7 t340 (l0.length : Int) (wrap64 (x174_3 + 1))) = some r := by rw [if_pos rfl] at H; exact H
         clear H
         have H := H1
         clear H1
         have H' := Aside0.mk H
         clear H
         go_wp2_with (first | (go_at_call 9; (with_reducible refine (laws_hHas.calls k3 _ _ t340 x174_3 true _ ?side1 ?side2 A44.out).mono ?_); (case side1 => repeat (first | exact (Kd.R_reads' HO_17.out).2.2 | (with_reducible refine Kd.C_alloc ?_ _) | (with_reducible refine Kd.C_drewN ?_ _) | (with_reducible refine Kd.C_drew ?_))); (case side2 => exact (Kd.R_reads' HO_17.out).2.1); rintro e w' ⟨rfl, ⟨nd, rfl⟩⟩; (try first | exact ⟨rfl, _, World.drewN_drewN _ _ _⟩ | exact ⟨rfl, _, Eq.trans (World.drewN_drewN _ _ _) (congrArg (World.drewN _) (Nat.add_assoc _ _ _))⟩)))
         repeat (go_quiet (first | (go_at_call 9; (with_reducible refine (laws_hHas.calls k3 _ _ t340 x174_3 true _ ?side1 ?side2 A44.out).mono ?_); (case side1 => repeat (first | exact (Kd.R_reads' HO_17.out).2.2 | (with_reducible refine Kd.C_alloc ?_ _) | (with_reducible refine Kd.C_drewN ?_ _) | (with_reducible refine Kd.C_drew ?_))); (case side2 => exact (Kd.R_reads' HO_17.out).2.1); rintro e w' ⟨rfl, ⟨nd, rfl⟩⟩; (try first | exact ⟨rfl, _, World.drewN_drewN _ _ _⟩ | exact ⟨rfl, _, Eq.trans (World.drewN_drewN _ _ _) (congrArg (World.drewN _) (Nat.add_assoc _ _ _))⟩))); try go_wp2_with (first | (go_at_call 9; (with_reducible refine (laws_hHas.calls k3 _ _ t340 x174_3 true _ ?side1 ?side2 A44.out).mono ?_); (case side1 => repeat (first | exact (Kd.R_reads' HO_17.out).2.2 | (with_reducible refine Kd.C_alloc ?_ _) | (with_reducible refine Kd.C_drewN ?_ _) | (with_reducible refine Kd.C_drew ?_))); (case side2 => exact (Kd.R_reads' HO_17.out).2.1); rintro e w' ⟨rfl, ⟨nd, rfl⟩⟩; (try first | exact ⟨rfl, _, World.drewN_drewN _ _ _⟩ | exact ⟨rfl, _, Eq.trans (World.drewN_drewN _ _ _) (congrArg (World.drewN _) (Nat.add_assoc _ _ _))⟩))))
         go_roundg k3
         case measure => have := HJ8.out; have := HK2.out; have := HK3.out; omega
         case rel => exact ⟨(wrap64 (x174_3 + 1)), (by first | rfl | (simp; done) | (simp [*]; done)), H', ⟨by have := HJ8.out; have := HK2.out; have := HK3.out; omega⟩, ⟨by (with_reducible repeat (first | apply Kd.R_alloc | apply Kd.R_drewN | apply Kd.R_drew)); exact HO_17.out⟩, ⟨by repeat (first | (with_reducible first | exact HB.out | apply below_alloc | apply pw_below_drewN | apply below_drew1) | exact HB.out)⟩⟩
        ·replace c45 := Bool.eq_false_iff.mpr c45
         subst c45
         have H1 : (none) = some r := by rw [if_neg (show ¬ (false = true) by decide)] at H; exact H
         clear H
         have H := H1
         clear H1
         exact absurd H (by simp)
       ·rw [if_neg c43] at H
        have c43b0 : decide (x174_3 < (l0.length : Int)) = false := decide_eq_false c43
        clear c43
        by_cases c46 : 0 ≤ (t340.length : Int)
        ·rw [if_pos c46] at H
         have c46b0 := eq_true c46
         have c46b1 : decide (0 ≤ (t340.length : Int)) = true := decide_eq_true c46
         clear c46
         by_cases c47 : ((t340.length : Int) : Int).toNat ≤ 35184372088832
         ·rw [if_pos c47] at H
          have c47b0 := eq_true c47
          have c47b1 : decide (((t340.length : Int) : Int).toNat ≤ 35184372088832) = true := decide_eq_true c47
          clear c47
          obtain ⟨y360, hy360⟩ : ∃ y_ : List Int, y_ = (List.replicate ((t340.length : Int) : Int).toNat 0) := ⟨_, rfl⟩
          replace H : (laws_FnPairsChangeOfAll.l2 k3 l0 l1 a2 l3 a4 a5 a6 a7 y360 t340 (t340.length : Int) 0) = some r := by first | (rw [hy360]; with_reducible exact H) | (have H2_ := (Option.bind_some _ _).symm.trans H; rw [hy360]; with_reducible exact H2_) | (have H2_ := (Option.bind_some _ _).symm.trans H; with_reducible exact H2_) | with_reducible exact H | (rw [hy360]; exact H) | exact H
          have Ny360 := Aside0.mk hy360
          clear hy360
          have H' := Aside0.mk H
          clear H
          go_wp2_with (first | ((with_reducible refine gate_dst (N := 184) rfl ?_); (try (refine gate_guard (by rfl) ?_; dsimp only)); refine Kd.R_make (Kd.int .i64) _ 3 rfl (N := 184) rfl 22 _ _ rfl (t340.length : Int) rfl rfl Try.underlying22 (.int .i64 0) 8 info3 rfl (by decide) (by omega) 0 (ok := fun _ => True) (okp := fun _ => True) rfl (fun _ hk => hk) trivial (of_decide_eq_true (by first | (with_reducible assumption) | assumption)) (Nat.le_trans (Nat.mul_le_mul_right _ (of_decide_eq_true (by first | (with_reducible assumption) | assumption) : (t340.length : Int).toNat ≤ 35184372088832)) (by omega)) (Below.refl _ _) (Nat.le_refl _) ?_; intro v361 w48 ho49 hb hg_ hnew_; clear hg_ hnew_; (first | rw [← Ny360.out] at ho49 | (simp only [Int.reduceToNat] at ho49; rw [← Ny360.out] at ho49)); have n0_ := Aside0.mk (Kd.R_elder' (by (with_reducible repeat (first | apply Kd.R_alloc | apply Kd.R_drewN | apply Kd.R_drew)); exact HO_17.out) (Kd.R_base ho49) hb); have n1_ := Aside0.mk (Kd.R_lower (Kd.R_new' ho49 (Kd.R_lt (by (with_reducible repeat (first | apply Kd.R_alloc | apply Kd.R_drewN | apply Kd.R_drew)); exact HO_17.out))) (below_size (by repeat (first | (with_reducible first | exact HB.out | apply below_alloc | apply pw_below_drewN | apply below_drew1) | exact HB.out)))); have n2_ := Aside0.mk (below_step (by repeat (first | (with_reducible first | exact HB.out | apply below_alloc | apply pw_below_drewN | apply below_drew1) | exact HB.out)) hb); clear HO_17; clear HB; have HO_17 := n0_; have HO362 := n1_; have HB := n2_; clear n0_ n1_ n2_; clear hb ho49))
          repeat (go_quiet (first | ((with_reducible refine gate_dst (N := 184) rfl ?_); (try (refine gate_guard (by rfl) ?_; dsimp only)); refine Kd.R_make (Kd.int .i64) _ 3 rfl (N := 184) rfl 22 _ _ rfl (t340.length : Int) rfl rfl Try.underlying22 (.int .i64 0) 8 info3 rfl (by decide) (by omega) 0 (ok := fun _ => True) (okp := fun _ => True) rfl (fun _ hk => hk) trivial (of_decide_eq_true (by first | (with_reducible assumption) | assumption)) (Nat.le_trans (Nat.mul_le_mul_right _ (of_decide_eq_true (by first | (with_reducible assumption) | assumption) : (t340.length : Int).toNat ≤ 35184372088832)) (by omega)) (Below.refl _ _) (Nat.le_refl _) ?_; intro v361 w48 ho49 hb hg_ hnew_; clear hg_ hnew_; (first | rw [← Ny360.out] at ho49 | (simp only [Int.reduceToNat] at ho49; rw [← Ny360.out] at ho49)); have n0_ := Aside0.mk (Kd.R_elder' (by (with_reducible repeat (first | apply Kd.R_alloc | apply Kd.R_drewN | apply Kd.R_drew)); exact HO_17.out) (Kd.R_base ho49) hb); have n1_ := Aside0.mk (Kd.R_lower (Kd.R_new' ho49 (Kd.R_lt (by (with_reducible repeat (first | apply Kd.R_alloc | apply Kd.R_drewN | apply Kd.R_drew)); exact HO_17.out))) (below_size (by repeat (first | (with_reducible first | exact HB.out | apply below_alloc | apply pw_below_drewN | apply below_drew1) | exact HB.out)))); have n2_ := Aside0.mk (below_step (by repeat (first | (with_reducible first | exact HB.out | apply below_alloc | apply pw_below_drewN | apply below_drew1) | exact HB.out)) hb); clear HO_17; clear HB; have HO_17 := n0_; have HO362 := n1_; have HB := n2_; clear n0_ n1_ n2_; clear hb ho49)); try go_wp2_with (first | ((with_reducible refine gate_dst (N := 184) rfl ?_); (try (refine gate_guard (by rfl) ?_; dsimp only)); refine Kd.R_make (Kd.int .i64) _ 3 rfl (N := 184) rfl 22 _ _ rfl (t340.length : Int) rfl rfl Try.underlying22 (.int .i64 0) 8 info3 rfl (by decide) (by omega) 0 (ok := fun _ => True) (okp := fun _ => True) rfl (fun _ hk => hk) trivial (of_decide_eq_true (by first | (with_reducible assumption) | assumption)) (Nat.le_trans (Nat.mul_le_mul_right _ (of_decide_eq_true (by first | (with_reducible assumption) | assumption) : (t340.length : Int).toNat ≤ 35184372088832)) (by omega)) (Below.refl _ _) (Nat.le_refl _) ?_; intro v361 w48 ho49 hb hg_ hnew_; clear hg_ hnew_; (first | rw [← Ny360.out] at ho49 | (simp only [Int.reduceToNat] at ho49; rw [← Ny360.out] at ho49)); have n0_ := Aside0.mk (Kd.R_elder' (by (with_reducible repeat (first | apply Kd.R_alloc | apply Kd.R_drewN | apply Kd.R_drew)); exact HO_17.out) (Kd.R_base ho49) hb); have n1_ := Aside0.mk (Kd.R_lower (Kd.R_new' ho49 (Kd.R_lt (by (with_reducible repeat (first | apply Kd.R_alloc | apply Kd.R_drewN | apply Kd.R_drew)); exact HO_17.out))) (below_size (by repeat (first | (with_reducible first | exact HB.out | apply below_alloc | apply pw_below_drewN | apply below_drew1) | exact HB.out)))); have n2_ := Aside0.mk (below_step (by repeat (first | (with_reducible first | exact HB.out | apply below_alloc | apply pw_below_drewN | apply below_drew1) | exact HB.out)) hb); clear HO_17; clear HB; have HO_17 := n0_; have HO362 := n1_; have HB := n2_; clear n0_ n1_ n2_; clear hb ho49)))
          go_loopg [187] k3 (fun kq v187 w' => ∃ (x29_4 : List Int) (x187_4 : Int), v187 = .int .i64 x187_4 ∧ Aside0 (laws_FnPairsChangeOfAll.l2 kq l0 l1 a2 l3 a4 a5 a6 a7 x29_4 t340 (t340.length : Int) x187_4 = some r) ∧ Aside0 (kq ≤ k3) ∧ Aside0 (Kd.R (Kd.int .i64) 3 w' w.heap.size (fun k_ => some k_ ≠ ((.slice Ao28 t340.length co28) : Value).ownBlock) v361 x29_4) ∧ Aside0 (Kd.R (Kd.int .i64) 3 w' w.heap.size (fun k_ => some k_ ≠ (v361 : Value).ownBlock) (.slice Ao28 t340.length co28) t340) ∧ Aside0 (Below w.heap.size w w'))
          case atStart => exact ⟨(y360), (0), (by first | rfl | (simp; done) | (simp [*]; done)), H', ⟨Nat.le_refl _⟩, ⟨by (with_reducible repeat (first | apply Kd.R_alloc | apply Kd.R_drewN | apply Kd.R_drew)); exact Kd.R_mono HO362.out (fun _ hk => hk.2)⟩, ⟨by (with_reducible repeat (first | apply Kd.R_alloc | apply Kd.R_drewN | apply Kd.R_drew)); exact Kd.R_mono HO_17.out (fun _ hk => hk.2)⟩, ⟨by repeat (first | (with_reducible first | exact HB.out | apply below_alloc | apply pw_below_drewN | apply below_drew1) | exact HB.out)⟩⟩
          case round =>
           clear H'
           try clear c1
           try clear c2
           try clear p2
           try clear c3
           try clear p3
           try clear q3
           try clear hx3
           try clear c4
           try clear p6
           try clear c10
           try clear c10b0
           try clear c10b1
           try clear c11
           try clear c11b0
           try clear c11b1
           try clear c12
           try clear c17
           try clear c17b0
           try clear c17b1
           try clear c17b2
           try clear c19
           try clear c20
           try clear c20b0
           try clear c20b1
           try clear c20b2
           try clear c21
           try clear c21b0
           try clear c21b1
           try clear c21b2
           try clear c22
           try clear c22b0
           try clear c22b1
           try clear c22b2
           try clear c30
           try clear c31
           try clear c31b0
           try clear c33
           try clear c33b0
           try clear c34
           try clear c34b0
           try clear c35
           try clear c35b0
           try clear p35
           try clear q35
           try clear hx35
           try clear c36
           try clear c36b0
           try clear c37
           try clear c37b0
           try clear c38
           try clear c38b0
           try clear c39
           try clear c39b0
           try clear c40
           try clear c40b0
           try clear c41
           try clear c41b0
           try clear c41b1
           try clear c42
           try clear c42b0
           try clear c43
           try clear c43b0
           try clear c45
           try clear c46
           try clear c46b0
           try clear c46b1
           try clear c47
           try clear c47b0
           try clear c47b1
           try clear hx353_0
           try clear hx354_0
           try clear hx355_0
           try clear hx356_0
           try clear hx357_0
           try clear hx358_0
           try clear p2
           try clear p3
           try clear p35
           try clear p353
           try clear p354
           try clear p355
           try clear p356
           try clear p357
           try clear p358
           try clear p6
           try clear q3
           try clear q35
           try clear q353
           try clear q354
           try clear q355
           try clear q356
           try clear q357
           try clear q358
           obtain ⟨x29_4, x187_4, rfl, HA, HK4, HO_29, HO_185, HB⟩ := hrel
           cases gk with
           | zero => exact absurd HA.out (by simp [laws_FnPairsChangeOfAll.l2])
           | succ k4 =>
            have H := HA.out
            clear HA
            simp only [laws_FnPairsChangeOfAll.l2] at H
            by_cases c50 : x187_4 < (t340.length : Int)
            ·rw [if_pos c50] at H
             have c50b0 : decide (x187_4 < (t340.length : Int)) = true := decide_eq_true c50
             clear c50
             by_cases c51 : 0 ≤ x187_4
             ·rw [if_pos c51] at H
              have c51b0 : decide (0 ≤ x187_4) = true := decide_eq_true c51
              clear c51
              by_cases c52 : x187_4 < (t340.length : Int)
              ·rw [if_pos c52] at H
               have c52b0 : decide (x187_4 < (t340.length : Int)) = true := decide_eq_true c52
               clear c52
               by_cases c53 : 0 ≤ (rd t340 x187_4)
               ·rw [if_pos c53] at H
                have c53b0 : decide (0 ≤ (rd t340 x187_4)) = true := decide_eq_true c53
                clear c53
                by_cases c54 : (rd t340 x187_4) < (l0.length : Int)
                ·rw [if_pos c54] at H
                 have c54b0 : decide ((rd t340 x187_4) < (l0.length : Int)) = true := decide_eq_true c54
                 clear c54
                 by_cases c55 : x187_4 < (x29_4.length : Int)
                 ·rw [if_pos c55] at H
                  have c55b0 : decide (x187_4 < (x29_4.length : Int)) = true := decide_eq_true c55
                  clear c55
                  obtain ⟨y365, hy365⟩ : ∃ y_ : List Int, y_ = (x29_4.set (x187_4 : Int).toNat (rd l0 (rd t340 x187_4))) := ⟨_, rfl⟩
                  replace H : (laws_FnPairsChangeOfAll.l2 k4 l0 l1 a2 l3 a4 a5 a6 a7 y365 t340 (t340.length : Int) (wrap64 (x187_4 + 1))) = some r := by first | (rw [hy365]; with_reducible exact H) | (have H2_ := (Option.bind_some _ _).symm.trans H; rw [hy365]; with_reducible exact H2_) | (have H2_ := (Option.bind_some _ _).symm.trans H; with_reducible exact H2_) | with_reducible exact H | (rw [hy365]; exact H) | exact H
                  have Ny365 := Aside0.mk hy365
                  clear hy365
                  have H' := Aside0.mk H
                  clear H
                  have p363 : 0 ≤ (x187_4 : Int) := of_decide_eq_true (by first | (with_reducible assumption) | assumption)
                  have q363 : x187_4 < (t340.length : Int) := of_decide_eq_true (by first | (with_reducible assumption) | assumption)
                  obtain ⟨ad363, e363, hx363_0⟩ := Kd.at_int (Kd.R_reads' HO_185.out).2.2 x187_4 p363 q363
                  cases e363
                  replace p363 := eq_true p363
                  replace q363 := eq_true q363
                  have p364 : 0 ≤ ((rd t340 x187_4) : Int) := of_decide_eq_true (by first | (with_reducible assumption) | assumption)
                  have q364 : (rd t340 x187_4) < (l0.length : Int) := of_decide_eq_true (by first | (with_reducible assumption) | assumption)
                  obtain ⟨ad364, e364, hx364_0⟩ := Kd.at_int HR0.out (rd t340 x187_4) p364 q364
                  cases e364
                  replace hx364_0 := (HB.out.cell (World.block_lt_of_cell? w _ hx364_0)).trans hx364_0
                  replace p364 := eq_true p364
                  replace q364 := eq_true q364
                  have p56 : 0 ≤ (x187_4 : Int) := of_decide_eq_true (by first | (with_reducible assumption) | assumption)
                  have q56 : (x187_4 : Int) < ((x29_4.length : Int) : Int) := of_decide_eq_true (by first | (with_reducible assumption) | assumption)
                  obtain ⟨go56, co56, eo56, gb56, gl56, cl56, HG56⟩ := Kd.R_form HO_29.out (by omega)
                  (first | cases eo56 | (injection eo56 with ea_ en_ ec_; (first | subst ea_ | (injection ea_ with ea_; subst ea_)); subst ec_; clear en_))
                  have GB56 := Aside0.mk gb56
                  have GG56 := Aside0.mk HG56
                  clear gb56 gl56 HG56
                  obtain ⟨hx56_0, hf56_0⟩ := Kd.R_celln 0 HO_29.out (x187_4 : Int) p56 q56
                  replace p56 := eq_true p56
                  replace q56 := eq_true q56
                  have HP57 := Kd.R_putg HO_29.out (x187_4 : Int) (rd l0 (rd t340 x187_4))
                  go_wp2_with (first | ((with_reducible refine gate_store (t := 3) (p := 198) rfl ?_); (try (rw [drewN_self wr]; generalize hq_ : World.drewN wr _ = wr; have n0_ := Aside0.mk (Kd.R_at hq_ HO_29.out); have n1_ := Aside0.mk (Kd.R_at hq_ HO_185.out); have n2_ := Aside0.mk (below_at hq_ HB.out); clear hq_ HO_29 HO_185 HB; have HO_29 := n0_; have HO_185 := n1_; have HB := n2_; clear n0_ n1_ n2_; (try (have HP57 := Kd.R_putg HO_29.out (x187_4 : Int) (rd l0 (rd t340 x187_4)))))); refine store_event (t := 3) (p := 198) (v := ?vo_w58) (w1 := (wr.setCell ⟨go56, (x187_4 : Int).toNat, none⟩ (.int .i64 (rd l0 (rd t340 x187_4))))) ?hg ?ho ?hn ?hr ?_; (case ho => rfl); (case hg => rfl); (case hn => rfl); (case hr => first | (go_simp; done) | (go_simp; rfl)); intro w58 hw; have hg : wr.grownBy w58 (some go56) := (by rw [hw]; exact HP57.2); have hp_ : Kd.R (Kd.int .i64) 3 w58 w.heap.size (fun k_ => some k_ ≠ (.slice (some ad363) t340.length co28 : Value).ownBlock) (.slice (some ⟨go56, 0, none⟩) x29_4.length co56) y365 := (by rw [hw, Ny365.out]; exact HP57.1); clear HP57; have n0_ := Aside0.mk (hp_); have n1_ := Aside0.mk (Kd.R_after (v := (.slice (some ⟨go56, 0, none⟩) x29_4.length co56)) (v1 := (.slice (some ⟨go56, 0, none⟩) x29_4.length co56)) (ok := (fun _ => True)) (by (with_reducible repeat (first | apply Kd.R_alloc | apply Kd.R_drewN | apply Kd.R_drew)); exact Kd.R_mono HO_185.out (fun _ hk => ⟨trivial, hk⟩)) hg (.inl rfl)); have n2_ := Aside0.mk ((by rw [hw]; exact below_set (HB.out) GB56.out : Below w.heap.size w w58)); clear HO_29; clear HO_185; clear HB; have HO_29 := n0_; have HO_185 := n1_; have HB := n2_; clear n0_ n1_ n2_; clear hg hw hp_))
                  repeat (go_quiet (first | ((with_reducible refine gate_store (t := 3) (p := 198) rfl ?_); (try (rw [drewN_self wr]; generalize hq_ : World.drewN wr _ = wr; have n0_ := Aside0.mk (Kd.R_at hq_ HO_29.out); have n1_ := Aside0.mk (Kd.R_at hq_ HO_185.out); have n2_ := Aside0.mk (below_at hq_ HB.out); clear hq_ HO_29 HO_185 HB; have HO_29 := n0_; have HO_185 := n1_; have HB := n2_; clear n0_ n1_ n2_; (try (have HP57 := Kd.R_putg HO_29.out (x187_4 : Int) (rd l0 (rd t340 x187_4)))))); refine store_event (t := 3) (p := 198) (v := ?vo_w58) (w1 := (wr.setCell ⟨go56, (x187_4 : Int).toNat, none⟩ (.int .i64 (rd l0 (rd t340 x187_4))))) ?hg ?ho ?hn ?hr ?_; (case ho => rfl); (case hg => rfl); (case hn => rfl); (case hr => first | (go_simp; done) | (go_simp; rfl)); intro w58 hw; have hg : wr.grownBy w58 (some go56) := (by rw [hw]; exact HP57.2); have hp_ : Kd.R (Kd.int .i64) 3 w58 w.heap.size (fun k_ => some k_ ≠ (.slice (some ad363) t340.length co28 : Value).ownBlock) (.slice (some ⟨go56, 0, none⟩) x29_4.length co56) y365 := (by rw [hw, Ny365.out]; exact HP57.1); clear HP57; have n0_ := Aside0.mk (hp_); have n1_ := Aside0.mk (Kd.R_after (v := (.slice (some ⟨go56, 0, none⟩) x29_4.length co56)) (v1 := (.slice (some ⟨go56, 0, none⟩) x29_4.length co56)) (ok := (fun _ => True)) (by (with_reducible repeat (first | apply Kd.R_alloc | apply Kd.R_drewN | apply Kd.R_drew)); exact Kd.R_mono HO_185.out (fun _ hk => ⟨trivial, hk⟩)) hg (.inl rfl)); have n2_ := Aside0.mk ((by rw [hw]; exact below_set (HB.out) GB56.out : Below w.heap.size w w58)); clear HO_29; clear HO_185; clear HB; have HO_29 := n0_; have HO_185 := n1_; have HB := n2_; clear n0_ n1_ n2_; clear hg hw hp_)); try go_wp2_with (first | ((with_reducible refine gate_store (t := 3) (p := 198) rfl ?_); (try (rw [drewN_self wr]; generalize hq_ : World.drewN wr _ = wr; have n0_ := Aside0.mk (Kd.R_at hq_ HO_29.out); have n1_ := Aside0.mk (Kd.R_at hq_ HO_185.out); have n2_ := Aside0.mk (below_at hq_ HB.out); clear hq_ HO_29 HO_185 HB; have HO_29 := n0_; have HO_185 := n1_; have HB := n2_; clear n0_ n1_ n2_; (try (have HP57 := Kd.R_putg HO_29.out (x187_4 : Int) (rd l0 (rd t340 x187_4)))))); refine store_event (t := 3) (p := 198) (v := ?vo_w58) (w1 := (wr.setCell ⟨go56, (x187_4 : Int).toNat, none⟩ (.int .i64 (rd l0 (rd t340 x187_4))))) ?hg ?ho ?hn ?hr ?_; (case ho => rfl); (case hg => rfl); (case hn => rfl); (case hr => first | (go_simp; done) | (go_simp; rfl)); intro w58 hw; have hg : wr.grownBy w58 (some go56) := (by rw [hw]; exact HP57.2); have hp_ : Kd.R (Kd.int .i64) 3 w58 w.heap.size (fun k_ => some k_ ≠ (.slice (some ad363) t340.length co28 : Value).ownBlock) (.slice (some ⟨go56, 0, none⟩) x29_4.length co56) y365 := (by rw [hw, Ny365.out]; exact HP57.1); clear HP57; have n0_ := Aside0.mk (hp_); have n1_ := Aside0.mk (Kd.R_after (v := (.slice (some ⟨go56, 0, none⟩) x29_4.length co56)) (v1 := (.slice (some ⟨go56, 0, none⟩) x29_4.length co56)) (ok := (fun _ => True)) (by (with_reducible repeat (first | apply Kd.R_alloc | apply Kd.R_drewN | apply Kd.R_drew)); exact Kd.R_mono HO_185.out (fun _ hk => ⟨trivial, hk⟩)) hg (.inl rfl)); have n2_ := Aside0.mk ((by rw [hw]; exact below_set (HB.out) GB56.out : Below w.heap.size w w58)); clear HO_29; clear HO_185; clear HB; have HO_29 := n0_; have HO_185 := n1_; have HB := n2_; clear n0_ n1_ n2_; clear hg hw hp_)))
                  go_roundg k4
                  case measure => have := HJ8.out; have := HK2.out; have := HK3.out; have := HK4.out; omega
                  case rel => exact ⟨(y365), (wrap64 (x187_4 + 1)), (by first | rfl | (simp; done) | (simp [*]; done)), H', ⟨by have := HJ8.out; have := HK2.out; have := HK3.out; have := HK4.out; omega⟩, ⟨by (with_reducible repeat (first | apply Kd.R_alloc | apply Kd.R_drewN | apply Kd.R_drew)); exact HO_29.out⟩, ⟨by (with_reducible repeat (first | apply Kd.R_alloc | apply Kd.R_drewN | apply Kd.R_drew)); exact Kd.R_mono HO_185.out (fun _ hk => hk.2)⟩, ⟨by repeat (first | (with_reducible first | exact HB.out | apply below_alloc | apply pw_below_drewN | apply below_drew1) | exact HB.out)⟩⟩
                 ·rw [if_neg c55] at H
                  exact absurd H (by simp)
                ·rw [if_neg c54] at H
                 exact absurd H (by simp)
               ·rw [if_neg c53] at H
                exact absurd H (by simp)
              ·rw [if_neg c52] at H
               exact absurd H (by simp)
             ·rw [if_neg c51] at H
              exact absurd H (by simp)
            ·rw [if_neg c50] at H
             have c50b0 : decide (x187_4 < (t340.length : Int)) = false := decide_eq_false c50
             clear c50
             replace H := Option.bind_eq_some_iff.mp H
             obtain ⟨⟨t366, t367⟩, A590, H⟩ := H
             replace H : ((impl_PairTime.f k4 x29_4).bind fun bt368 => ((impl_PairRounds.f k4 l0).bind fun bt370 => ((impl_PairRounds.f k4 x29_4).bind fun bt372 => (if t367 = true then (if bt368.2 = true then (if t366 = bt368.1 then (if bt370.2 = true then (if bt372.2 = true then (if bt370.1.toList = bt372.1.toList then (laws_FnPairsChangeOfAll.j4 k4 l1 a2 l3 a4 a5 a6 a7) else (none)) else (none)) else (none)) else (none)) else (none)) else (none))))) = some r := H
             have A59 := Aside0.mk A590
             clear A590
             replace H := Option.bind_eq_some_iff.mp H
             obtain ⟨⟨t368, t369⟩, A600, H⟩ := H
             replace H : ((impl_PairRounds.f k4 l0).bind fun bt370 => ((impl_PairRounds.f k4 x29_4).bind fun bt372 => (if t367 = true then (if t369 = true then (if t366 = t368 then (if bt370.2 = true then (if bt372.2 = true then (if bt370.1.toList = bt372.1.toList then (laws_FnPairsChangeOfAll.j4 k4 l1 a2 l3 a4 a5 a6 a7) else (none)) else (none)) else (none)) else (none)) else (none)) else (none)))) = some r := H
             have A60 := Aside0.mk A600
             clear A600
             replace H := Option.bind_eq_some_iff.mp H
             obtain ⟨⟨t370, t371⟩, A610, H⟩ := H
             replace H : ((impl_PairRounds.f k4 x29_4).bind fun bt372 => (if t367 = true then (if t369 = true then (if t366 = t368 then (if t371 = true then (if bt372.2 = true then (if t370.toList = bt372.1.toList then (laws_FnPairsChangeOfAll.j4 k4 l1 a2 l3 a4 a5 a6 a7) else (none)) else (none)) else (none)) else (none)) else (none)) else (none))) = some r := H
             have A61 := Aside0.mk A610
             clear A610
             replace H := Option.bind_eq_some_iff.mp H
             obtain ⟨⟨t372, t373⟩, A620, H⟩ := H
             replace H : (if t367 = true then (if t369 = true then (if t366 = t368 then (if t371 = true then (if t373 = true then (if t370.toList = t372.toList then (laws_FnPairsChangeOfAll.j4 k4 l1 a2 l3 a4 a5 a6 a7) else (none)) else (none)) else (none)) else (none)) else (none)) else (none)) = some r := H
             have A62 := Aside0.mk A620
             clear A620
             by_cases c63 : t367 = true
             ·subst c63
              have H1 : (if t369 = true then (if t366 = t368 then (if t371 = true then (if t373 = true then (if t370.toList = t372.toList then (laws_FnPairsChangeOfAll.j4 k4 l1 a2 l3 a4 a5 a6 a7) else (none)) else (none)) else (none)) else (none)) else (none)) = some r := by rw [if_pos rfl] at H; exact H
              clear H
              have H := H1
              clear H1
              by_cases c64 : t369 = true
              ·subst c64
               have H1 : (if t366 = t368 then (if t371 = true then (if t373 = true then (if t370.toList = t372.toList then (laws_FnPairsChangeOfAll.j4 k4 l1 a2 l3 a4 a5 a6 a7) else (none)) else (none)) else (none)) else (none)) = some r := by rw [if_pos rfl] at H; exact H
               clear H
               have H := H1
               clear H1
               by_cases c65 : t366 = t368
               ·rw [if_pos c65] at H
                have c65b0 : (t366 == t368) = true := beq_iff_eq.mpr c65
                have c65b1 : (t366 != t368) = false := bne_eq_false_iff_eq.mpr c65
                clear c65
                by_cases c66 : t371 = true
                ·subst c66
                 have H1 : (if t373 = true then (if t370.toList = t372.toList then (laws_FnPairsChangeOfAll.j4 k4 l1 a2 l3 a4 a5 a6 a7) else (none)) else (none)) = some r := by rw [if_pos rfl] at H; exact H
                 clear H
                 have H := H1
                 clear H1
                 by_cases c67 : t373 = true
                 ·subst c67
                  have H1 : (if t370.toList = t372.toList then (laws_FnPairsChangeOfAll.j4 k4 l1 a2 l3 a4 a5 a6 a7) else (none)) = some r := by rw [if_pos rfl] at H; exact H
                  clear H
                  have H := H1
                  clear H1
                  by_cases c68 : t370.toList = t372.toList
                  ·rw [if_pos c68] at H
                   have c68b0 : (t370.toList == t372.toList) = true := beq_iff_eq.mpr c68
                   have c68b1 : (t370.toList != t372.toList) = false := bne_eq_false_iff_eq.mpr c68
                   clear c68
                   have H' := Aside0.mk H
                   clear H
                   go_wp2_with (first | (go_at_call 10; (with_reducible refine (impl_PairTime.calls k4 _ _ l0 t366 true _ ?side1 ?side2 A59.out).mono ?_); (case side1 => repeat (first | exact (Kd.C_below HR0.out HB.out) | (with_reducible refine Kd.C_alloc ?_ _) | (with_reducible refine Kd.C_drewN ?_ _) | (with_reducible refine Kd.C_drew ?_))); (case side2 => exact HC0.out); rintro e w69 ⟨rfl, hb⟩; have n0_ := Aside0.mk (Kd.R_below (by (with_reducible repeat (first | apply Kd.R_alloc | apply Kd.R_drewN | apply Kd.R_drew)); exact HO_29.out) hb); have n1_ := Aside0.mk (Kd.R_below (by (with_reducible repeat (first | apply Kd.R_alloc | apply Kd.R_drewN | apply Kd.R_drew)); exact HO_185.out) hb); have n2_ := Aside0.mk (below_step (by repeat (first | (with_reducible first | exact HB.out | apply below_alloc | apply pw_below_drewN | apply below_drew1) | exact HB.out)) hb); clear HO_29; clear HO_185; clear HB; have HO_29 := n0_; have HO_185 := n1_; have HB := n2_; clear n0_ n1_ n2_; (try clear hb); (try clear hb2); (try clear hk); (try clear hi); obtain ⟨Ao70, co70, eo70⟩ := Kd.R_slice HO_29.out; subst eo70) | (go_at_call 10; (with_reducible refine (impl_PairTime.calls k4 _ _ x29_4 t368 true _ ?side1 ?side2 A60.out).mono ?_); (case side1 => repeat (first | exact (Kd.R_reads' HO_29.out).2.2 | (with_reducible refine Kd.C_alloc ?_ _) | (with_reducible refine Kd.C_drewN ?_ _) | (with_reducible refine Kd.C_drew ?_))); (case side2 => exact (Kd.R_reads' HO_29.out).2.1); rintro e w71 ⟨rfl, hb⟩; have n0_ := Aside0.mk (Kd.R_below (by (with_reducible repeat (first | apply Kd.R_alloc | apply Kd.R_drewN | apply Kd.R_drew)); exact HO_29.out) hb); have n1_ := Aside0.mk (Kd.R_below (by (with_reducible repeat (first | apply Kd.R_alloc | apply Kd.R_drewN | apply Kd.R_drew)); exact HO_185.out) hb); have n2_ := Aside0.mk (below_step (by repeat (first | (with_reducible first | exact HB.out | apply below_alloc | apply pw_below_drewN | apply below_drew1) | exact HB.out)) hb); clear HO_29; clear HO_185; clear HB; have HO_29 := n0_; have HO_185 := n1_; have HB := n2_; clear n0_ n1_ n2_; (try clear hb); (try clear hb2); (try clear hk); (try clear hi)) | (go_at_call 11; (with_reducible refine (impl_PairRounds.calls k4 _ _ l0 t370 true _ ?side1 ?side2 A61.out).mono ?_); (case side1 => repeat (first | exact (Kd.C_below HR0.out HB.out) | (with_reducible refine Kd.C_alloc ?_ _) | (with_reducible refine Kd.C_drewN ?_ _) | (with_reducible refine Kd.C_drew ?_))); (case side2 => exact HC0.out); rintro e w72 ⟨rfl, hb⟩; have n0_ := Aside0.mk (Kd.R_below (by (with_reducible repeat (first | apply Kd.R_alloc | apply Kd.R_drewN | apply Kd.R_drew)); exact HO_29.out) hb); have n1_ := Aside0.mk (Kd.R_below (by (with_reducible repeat (first | apply Kd.R_alloc | apply Kd.R_drewN | apply Kd.R_drew)); exact HO_185.out) hb); have n2_ := Aside0.mk (below_step (by repeat (first | (with_reducible first | exact HB.out | apply below_alloc | apply pw_below_drewN | apply below_drew1) | exact HB.out)) hb); clear HO_29; clear HO_185; clear HB; have HO_29 := n0_; have HO_185 := n1_; have HB := n2_; clear n0_ n1_ n2_; (try clear hb); (try clear hb2); (try clear hk); (try clear hi)) | (go_at_call 11; (with_reducible refine (impl_PairRounds.calls k4 _ _ x29_4 t372 true _ ?side1 ?side2 A62.out).mono ?_); (case side1 => repeat (first | exact (Kd.R_reads' HO_29.out).2.2 | (with_reducible refine Kd.C_alloc ?_ _) | (with_reducible refine Kd.C_drewN ?_ _) | (with_reducible refine Kd.C_drew ?_))); (case side2 => exact (Kd.R_reads' HO_29.out).2.1); rintro e w73 ⟨rfl, hb⟩; have n0_ := Aside0.mk (Kd.R_below (by (with_reducible repeat (first | apply Kd.R_alloc | apply Kd.R_drewN | apply Kd.R_drew)); exact HO_29.out) hb); have n1_ := Aside0.mk (Kd.R_below (by (with_reducible repeat (first | apply Kd.R_alloc | apply Kd.R_drewN | apply Kd.R_drew)); exact HO_185.out) hb); have n2_ := Aside0.mk (below_step (by repeat (first | (with_reducible first | exact HB.out | apply below_alloc | apply pw_below_drewN | apply below_drew1) | exact HB.out)) hb); clear HO_29; clear HO_185; clear HB; have HO_29 := n0_; have HO_185 := n1_; have HB := n2_; clear n0_ n1_ n2_; (try clear hb); (try clear hb2); (try clear hk); (try clear hi)))
                   repeat (go_quiet (first | (go_at_call 10; (with_reducible refine (impl_PairTime.calls k4 _ _ l0 t366 true _ ?side1 ?side2 A59.out).mono ?_); (case side1 => repeat (first | exact (Kd.C_below HR0.out HB.out) | (with_reducible refine Kd.C_alloc ?_ _) | (with_reducible refine Kd.C_drewN ?_ _) | (with_reducible refine Kd.C_drew ?_))); (case side2 => exact HC0.out); rintro e w69 ⟨rfl, hb⟩; have n0_ := Aside0.mk (Kd.R_below (by (with_reducible repeat (first | apply Kd.R_alloc | apply Kd.R_drewN | apply Kd.R_drew)); exact HO_29.out) hb); have n1_ := Aside0.mk (Kd.R_below (by (with_reducible repeat (first | apply Kd.R_alloc | apply Kd.R_drewN | apply Kd.R_drew)); exact HO_185.out) hb); have n2_ := Aside0.mk (below_step (by repeat (first | (with_reducible first | exact HB.out | apply below_alloc | apply pw_below_drewN | apply below_drew1) | exact HB.out)) hb); clear HO_29; clear HO_185; clear HB; have HO_29 := n0_; have HO_185 := n1_; have HB := n2_; clear n0_ n1_ n2_; (try clear hb); (try clear hb2); (try clear hk); (try clear hi); obtain ⟨Ao70, co70, eo70⟩ := Kd.R_slice HO_29.out; subst eo70) | (go_at_call 10; (with_reducible refine (impl_PairTime.calls k4 _ _ x29_4 t368 true _ ?side1 ?side2 A60.out).mono ?_); (case side1 => repeat (first | exact (Kd.R_reads' HO_29.out).2.2 | (with_reducible refine Kd.C_alloc ?_ _) | (with_reducible refine Kd.C_drewN ?_ _) | (with_reducible refine Kd.C_drew ?_))); (case side2 => exact (Kd.R_reads' HO_29.out).2.1); rintro e w71 ⟨rfl, hb⟩; have n0_ := Aside0.mk (Kd.R_below (by (with_reducible repeat (first | apply Kd.R_alloc | apply Kd.R_drewN | apply Kd.R_drew)); exact HO_29.out) hb); have n1_ := Aside0.mk (Kd.R_below (by (with_reducible repeat (first | apply Kd.R_alloc | apply Kd.R_drewN | apply Kd.R_drew)); exact HO_185.out) hb); have n2_ := Aside0.mk (below_step (by repeat (first | (with_reducible first | exact HB.out | apply below_alloc | apply pw_below_drewN | apply below_drew1) | exact HB.out)) hb); clear HO_29; clear HO_185; clear HB; have HO_29 := n0_; have HO_185 := n1_; have HB := n2_; clear n0_ n1_ n2_; (try clear hb); (try clear hb2); (try clear hk); (try clear hi)) | (go_at_call 11; (with_reducible refine (impl_PairRounds.calls k4 _ _ l0 t370 true _ ?side1 ?side2 A61.out).mono ?_); (case side1 => repeat (first | exact (Kd.C_below HR0.out HB.out) | (with_reducible refine Kd.C_alloc ?_ _) | (with_reducible refine Kd.C_drewN ?_ _) | (with_reducible refine Kd.C_drew ?_))); (case side2 => exact HC0.out); rintro e w72 ⟨rfl, hb⟩; have n0_ := Aside0.mk (Kd.R_below (by (with_reducible repeat (first | apply Kd.R_alloc | apply Kd.R_drewN | apply Kd.R_drew)); exact HO_29.out) hb); have n1_ := Aside0.mk (Kd.R_below (by (with_reducible repeat (first | apply Kd.R_alloc | apply Kd.R_drewN | apply Kd.R_drew)); exact HO_185.out) hb); have n2_ := Aside0.mk (below_step (by repeat (first | (with_reducible first | exact HB.out | apply below_alloc | apply pw_below_drewN | apply below_drew1) | exact HB.out)) hb); clear HO_29; clear HO_185; clear HB; have HO_29 := n0_; have HO_185 := n1_; have HB := n2_; clear n0_ n1_ n2_; (try clear hb); (try clear hb2); (try clear hk); (try clear hi)) | (go_at_call 11; (with_reducible refine (impl_PairRounds.calls k4 _ _ x29_4 t372 true _ ?side1 ?side2 A62.out).mono ?_); (case side1 => repeat (first | exact (Kd.R_reads' HO_29.out).2.2 | (with_reducible refine Kd.C_alloc ?_ _) | (with_reducible refine Kd.C_drewN ?_ _) | (with_reducible refine Kd.C_drew ?_))); (case side2 => exact (Kd.R_reads' HO_29.out).2.1); rintro e w73 ⟨rfl, hb⟩; have n0_ := Aside0.mk (Kd.R_below (by (with_reducible repeat (first | apply Kd.R_alloc | apply Kd.R_drewN | apply Kd.R_drew)); exact HO_29.out) hb); have n1_ := Aside0.mk (Kd.R_below (by (with_reducible repeat (first | apply Kd.R_alloc | apply Kd.R_drewN | apply Kd.R_drew)); exact HO_185.out) hb); have n2_ := Aside0.mk (below_step (by repeat (first | (with_reducible first | exact HB.out | apply below_alloc | apply pw_below_drewN | apply below_drew1) | exact HB.out)) hb); clear HO_29; clear HO_185; clear HB; have HO_29 := n0_; have HO_185 := n1_; have HB := n2_; clear n0_ n1_ n2_; (try clear hb); (try clear hb2); (try clear hk); (try clear hi))); try go_wp2_with (first | (go_at_call 10; (with_reducible refine (impl_PairTime.calls k4 _ _ l0 t366 true _ ?side1 ?side2 A59.out).mono ?_); (case side1 => repeat (first | exact (Kd.C_below HR0.out HB.out) | (with_reducible refine Kd.C_alloc ?_ _) | (with_reducible refine Kd.C_drewN ?_ _) | (with_reducible refine Kd.C_drew ?_))); (case side2 => exact HC0.out); rintro e w69 ⟨rfl, hb⟩; have n0_ := Aside0.mk (Kd.R_below (by (with_reducible repeat (first | apply Kd.R_alloc | apply Kd.R_drewN | apply Kd.R_drew)); exact HO_29.out) hb); have n1_ := Aside0.mk (Kd.R_below (by (with_reducible repeat (first | apply Kd.R_alloc | apply Kd.R_drewN | apply Kd.R_drew)); exact HO_185.out) hb); have n2_ := Aside0.mk (below_step (by repeat (first | (with_reducible first | exact HB.out | apply below_alloc | apply pw_below_drewN | apply below_drew1) | exact HB.out)) hb); clear HO_29; clear HO_185; clear HB; have HO_29 := n0_; have HO_185 := n1_; have HB := n2_; clear n0_ n1_ n2_; (try clear hb); (try clear hb2); (try clear hk); (try clear hi); obtain ⟨Ao70, co70, eo70⟩ := Kd.R_slice HO_29.out; subst eo70) | (go_at_call 10; (with_reducible refine (impl_PairTime.calls k4 _ _ x29_4 t368 true _ ?side1 ?side2 A60.out).mono ?_); (case side1 => repeat (first | exact (Kd.R_reads' HO_29.out).2.2 | (with_reducible refine Kd.C_alloc ?_ _) | (with_reducible refine Kd.C_drewN ?_ _) | (with_reducible refine Kd.C_drew ?_))); (case side2 => exact (Kd.R_reads' HO_29.out).2.1); rintro e w71 ⟨rfl, hb⟩; have n0_ := Aside0.mk (Kd.R_below (by (with_reducible repeat (first | apply Kd.R_alloc | apply Kd.R_drewN | apply Kd.R_drew)); exact HO_29.out) hb); have n1_ := Aside0.mk (Kd.R_below (by (with_reducible repeat (first | apply Kd.R_alloc | apply Kd.R_drewN | apply Kd.R_drew)); exact HO_185.out) hb); have n2_ := Aside0.mk (below_step (by repeat (first | (with_reducible first | exact HB.out | apply below_alloc | apply pw_below_drewN | apply below_drew1) | exact HB.out)) hb); clear HO_29; clear HO_185; clear HB; have HO_29 := n0_; have HO_185 := n1_; have HB := n2_; clear n0_ n1_ n2_; (try clear hb); (try clear hb2); (try clear hk); (try clear hi)) | (go_at_call 11; (with_reducible refine (impl_PairRounds.calls k4 _ _ l0 t370 true _ ?side1 ?side2 A61.out).mono ?_); (case side1 => repeat (first | exact (Kd.C_below HR0.out HB.out) | (with_reducible refine Kd.C_alloc ?_ _) | (with_reducible refine Kd.C_drewN ?_ _) | (with_reducible refine Kd.C_drew ?_))); (case side2 => exact HC0.out); rintro e w72 ⟨rfl, hb⟩; have n0_ := Aside0.mk (Kd.R_below (by (with_reducible repeat (first | apply Kd.R_alloc | apply Kd.R_drewN | apply Kd.R_drew)); exact HO_29.out) hb); have n1_ := Aside0.mk (Kd.R_below (by (with_reducible repeat (first | apply Kd.R_alloc | apply Kd.R_drewN | apply Kd.R_drew)); exact HO_185.out) hb); have n2_ := Aside0.mk (below_step (by repeat (first | (with_reducible first | exact HB.out | apply below_alloc | apply pw_below_drewN | apply below_drew1) | exact HB.out)) hb); clear HO_29; clear HO_185; clear HB; have HO_29 := n0_; have HO_185 := n1_; have HB := n2_; clear n0_ n1_ n2_; (try clear hb); (try clear hb2); (try clear hk); (try clear hi)) | (go_at_call 11; (with_reducible refine (impl_PairRounds.calls k4 _ _ x29_4 t372 true _ ?side1 ?side2 A62.out).mono ?_); (case side1 => repeat (first | exact (Kd.R_reads' HO_29.out).2.2 | (with_reducible refine Kd.C_alloc ?_ _) | (with_reducible refine Kd.C_drewN ?_ _) | (with_reducible refine Kd.C_drew ?_))); (case side2 => exact (Kd.R_reads' HO_29.out).2.1); rintro e w73 ⟨rfl, hb⟩; have n0_ := Aside0.mk (Kd.R_below (by (with_reducible repeat (first | apply Kd.R_alloc | apply Kd.R_drewN | apply Kd.R_drew)); exact HO_29.out) hb); have n1_ := Aside0.mk (Kd.R_below (by (with_reducible repeat (first | apply Kd.R_alloc | apply Kd.R_drewN | apply Kd.R_drew)); exact HO_185.out) hb); have n2_ := Aside0.mk (below_step (by repeat (first | (with_reducible first | exact HB.out | apply below_alloc | apply pw_below_drewN | apply below_drew1) | exact HB.out)) hb); clear HO_29; clear HO_185; clear HB; have HO_29 := n0_; have HO_185 := n1_; have HB := n2_; clear n0_ n1_ n2_; (try clear hb); (try clear hb2); (try clear hk); (try clear hi))))
                   refine Met.intro ?_
                   go_step
                   refine laws_FnPairsChangeOfAll.C4.meet k A0 c0 l0 A1 c1 l1 a2 A3 c3 l3 a4 a5 a6 a7 r w kj8 rfl rfl rfl rfl rfl rfl rfl rfl rfl ?rel
                   case rel => exact ⟨_, H', ⟨by have := HJ8.out; have := HK2.out; have := HK3.out; have := HK4.out; first | omega | exact Nat.le_refl _⟩, ⟨by repeat (first | (with_reducible first | exact HB.out | apply below_alloc | apply pw_below_drewN | apply below_drew1) | exact HB.out)⟩⟩
                  ·rw [if_neg c68] at H
                   exact absurd H (by simp)
                 ·replace c67 := Bool.eq_false_iff.mpr c67
                  subst c67
                  have H1 : (none) = some r := by rw [if_neg (show ¬ (false = true) by decide)] at H; exact H
                  clear H
                  have H := H1
                  clear H1
                  exact absurd H (by simp)
                ·replace c66 := Bool.eq_false_iff.mpr c66
                 subst c66
                 have H1 : (none) = some r := by rw [if_neg (show ¬ (false = true) by decide)] at H; exact H
                 clear H
                 have H := H1
                 clear H1
                 exact absurd H (by simp)
               ·rw [if_neg c65] at H
                exact absurd H (by simp)
              ·replace c64 := Bool.eq_false_iff.mpr c64
               subst c64
               have H1 : (none) = some r := by rw [if_neg (show ¬ (false = true) by decide)] at H; exact H
               clear H
               have H := H1
               clear H1
               exact absurd H (by simp)
             ·replace c63 := Bool.eq_false_iff.mpr c63
              subst c63
              have H1 : (none) = some r := by rw [if_neg (show ¬ (false = true) by decide)] at H; exact H
              clear H
              have H := H1
              clear H1
              exact absurd H (by simp)
         ·rw [if_neg c47] at H
          exact absurd H (by simp)
        ·rw [if_neg c46] at H
         exact absurd H (by simp)
 ·replace c30 := Bool.eq_false_iff.mpr c30
  subst c30
  have H1 : (laws_FnPairsChangeOfAll.j4 kj8 l1 a2 l3 a4 a5 a6 a7) = some r := by rw [if_neg (show ¬ (false = true) by decide)] at H; exact H
  clear H
  have H := H1
  clear H1
  have H' := Aside0.mk H
  clear H
  go_wp2
  repeat (go_quiet (fail); try go_wp2)
  refine Met.intro ?_
  go_step
  refine laws_FnPairsChangeOfAll.C4.meet k A0 c0 l0 A1 c1 l1 a2 A3 c3 l3 a4 a5 a6 a7 r w kj8 rfl rfl rfl rfl rfl rfl rfl rfl rfl ?rel
  case rel => exact ⟨_, H', ⟨by have := HJ8.out; first | omega | exact Nat.le_refl _⟩, ⟨by repeat (first | (with_reducible first | exact HB.out | apply below_alloc | apply pw_below_drewN | apply below_drew1) | exact HB.out)⟩⟩

end Go.Proofs.Ytmejodmokogblaa.G
