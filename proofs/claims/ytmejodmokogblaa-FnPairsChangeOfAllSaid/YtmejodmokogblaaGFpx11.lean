-- Laid by wip/gprint.py (the session's own program, round the kit's printer) for this claim.
import Derived.Test.YtmejodmokogblaaGFpx0
import Derived.Test.YtmejodmokogblaaGFpx1
import Derived.Test.YtmejodmokogblaaGFpx2
import Derived.Test.YtmejodmokogblaaGFpx4
import Derived.Test.YtmejodmokogblaaGFpx5
import Derived.Test.YtmejodmokogblaaGFpx6
import Derived.Test.YtmejodmokogblaaGFpx7
import Derived.Test.YtmejodmokogblaaGFpx8
import Derived.Test.YtmejodmokogblaaGFpx9
import Derived.Test.YtmejodmokogblaaGFpx10
namespace Go.Proofs.Ytmejodmokogblaa.G
open Go.RowKit Go.Proofs.YtmejodmokogblaaW.PrintWords Go.Proofs.YtmejodmokogblaaW.PrintLast Go.Proofs.YtmejodmokogblaaW.PrintMore
attribute [local go_sem] max2_int min2_int max_two min_two max_three min_three max_four min_four   -- for this text's walks alone
set_option linter.unusedVariables false
set_option linter.unusedSimpArgs false

/-! ### laws_FnPairsChangeOfAll: its walk, behind the great test -/
set_option maxHeartbeats 8000000 in
set_option maxRecDepth 100000 in
theorem laws_FnPairsChangeOfAll.rest7 (k : Nat) (A0 : Option Addr) (c0 : Nat) (l0 : List Int) (A1 : Option Addr) (c1 : Nat) (l1 : List Int) (a2 : Int) (A3 : Option Addr) (c3 : Nat) (l3 : List Int) (a4 a5 a6 a7 : Int) (r : Bool) (w : World) (HR0 : Aside0 (Kd.C (Kd.int .i64) w A0 l0.length l0)) (HC0 : Aside0 (l0.length ≤ c0)) (HR1 : Aside0 (Kd.C (Kd.int .i64) w A1 l1.length l1)) (HC1 : Aside0 (l1.length ≤ c1)) (HR3 : Aside0 (Kd.C (Kd.int .i64) w A3 l3.length l3)) (HC3 : Aside0 (l3.length ≤ c3)) (kj8 kj22 kj83 kj119 : Nat) (HJ8 : Aside0 (kj8 + 1 ≤ k)) (HJ22 : Aside0 (kj22 + 1 ≤ kj8)) (HJ83 : Aside0 (kj83 + 1 ≤ kj22)) (HJ119 : Aside0 (kj119 + 1 ≤ kj83)) (t378 : Int) (t390 : List Int) (t391 : Bool) (v392 : Value) (J K' : Act → World → Prop) (hJ : ∀ aa ww, laws_FnPairsChangeOfAll.C8 k A0 c0 l0 A1 c1 l1 a2 A3 c3 l3 a4 a5 a6 a7 r w kj119 t391 v392 aa ww → J aa ww) (hK' : ∀ aa ww, Met J aa ww → K' aa ww) (K1 : Act → World → Prop) (hK1 : ∀ aa ww, Code.wp Try.prog (cutNx 1 (cutTh (cutNx 1 (cutFs (cutNx 20 (Try.f3.body.getD .skip)))))) (Exit.then K' (bodyPost Try.prog Try.f3 fun e w' => e = .returned (.bool r) ∧ Below w.heap.size w w')) aa ww → K1 aa ww) (wc : World) (a' : Act) (hinv : laws_FnPairsChangeOfAll.C7 k A0 c0 l0 A1 c1 l1 a2 A3 c3 l3 a4 a5 a6 a7 r w kj119 t378 t390 t391 v392 a' wc) :
    Code.wp Try.prog (cutNx 1 (cutFs (cutTh (cutNx 1 (cutFs (cutNx 20 (Try.f3.body.getD .skip))))))) (Exit.then K1 (Exit.then K' (bodyPost Try.prog Try.f3 fun e w' => e = .returned (.bool r) ∧ Below w.heap.size w w'))) a' wc := by
 obtain ⟨uu, rfl, p0, p1, p2, p3, p4, p5, p6, p7, p44, p56, p57, hcut⟩ := hinv
 rw [cutLit, p0, p1, p2, p3, p4, p5, p6, p7, p44, p56, p57]
 clear p0 p1 p2 p3 p4 p5 p6 p7 p44 p56 p57
 conv => enter [2]; whnf
 obtain ⟨kq, x425_137, pl, HA, HJ137, HO_56, HB⟩ := hcut
 rw [pl]
 clear pl
 conv at hK1 => enter [aa, ww, 1, 2]; whnf
 cases kq with
 | zero => exact absurd HA.out (by simp [laws_FnPairsChangeOfAll.j7])
 | succ kj137 =>
  have H := HA.out
  clear HA
  simp only [laws_FnPairsChangeOfAll.j7] at H
  by_cases c148 : x425_137 = true
  ·subst c148
   have H1 : (none) = some r := by rw [if_pos rfl] at H; exact H
   clear H
   have H := H1
   clear H1
   exact absurd H (by simp)
  ·replace c148 := Bool.eq_false_iff.mpr c148
   subst c148
   have H1 : ((some (([] : List Int) : List Int)).bind fun y413 => (if y413.length + l3.length < 17592186044416 then ((some (y413 ++ l3 : List Int)).bind fun y416 => (if 0 ≤ a4 then (if a4 < (y416.length : Int) then ((impl_PairTime.f kj137 l3).bind fun bt420 => ((impl_PairTime.f kj137 (y416.set (a4 : Int).toNat 1)).bind fun bt422 => (if bt420.2 = true then (if bt422.2 = true then (if (wrap64 (bt420.1 - bt422.1)) = t378 then (laws_FnPairsChangeOfAll.j8 kj137 a5 a6 a7 t390 t391) else (none)) else (none)) else (none)))) else (none)) else (none))) else (none))) = some r := by rw [if_neg (show ¬ (false = true) by decide)] at H; exact H
   clear H
   have H := H1
   clear H1
   obtain ⟨y413, hy413⟩ : ∃ y_ : List Int, y_ = (([] : List Int)) := ⟨_, rfl⟩
   replace H : (if y413.length + l3.length < 17592186044416 then ((some (y413 ++ l3 : List Int)).bind fun y416 => (if 0 ≤ a4 then (if a4 < (y416.length : Int) then ((impl_PairTime.f kj137 l3).bind fun bt420 => ((impl_PairTime.f kj137 (y416.set (a4 : Int).toNat 1)).bind fun bt422 => (if bt420.2 = true then (if bt422.2 = true then (if (wrap64 (bt420.1 - bt422.1)) = t378 then (laws_FnPairsChangeOfAll.j8 kj137 a5 a6 a7 t390 t391) else (none)) else (none)) else (none)))) else (none)) else (none))) else (none)) = some r := by first | (rw [hy413]; with_reducible exact H) | (have H2_ := (Option.bind_some _ _).symm.trans H; rw [hy413]; with_reducible exact H2_) | (have H2_ := (Option.bind_some _ _).symm.trans H; with_reducible exact H2_) | with_reducible exact H | (rw [hy413]; exact H) | exact H
   have Ny413 := Aside0.mk hy413
   clear hy413
   by_cases c149 : y413.length + l3.length < 17592186044416
   ·rw [if_pos c149] at H
    have LMc149 := Aside0.mk c149
    clear c149
    obtain ⟨y416, hy416⟩ : ∃ y_ : List Int, y_ = (y413 ++ l3) := ⟨_, rfl⟩
    replace H : (if 0 ≤ a4 then (if a4 < (y416.length : Int) then ((impl_PairTime.f kj137 l3).bind fun bt420 => ((impl_PairTime.f kj137 (y416.set (a4 : Int).toNat 1)).bind fun bt422 => (if bt420.2 = true then (if bt422.2 = true then (if (wrap64 (bt420.1 - bt422.1)) = t378 then (laws_FnPairsChangeOfAll.j8 kj137 a5 a6 a7 t390 t391) else (none)) else (none)) else (none)))) else (none)) else (none)) = some r := by first | (rw [hy416]; with_reducible exact H) | (have H2_ := (Option.bind_some _ _).symm.trans H; rw [hy416]; with_reducible exact H2_) | (have H2_ := (Option.bind_some _ _).symm.trans H; with_reducible exact H2_) | with_reducible exact H | (rw [hy416]; exact H) | exact H
    have Ny416 := Aside0.mk hy416
    clear hy416
    by_cases c150 : 0 ≤ a4
    ·rw [if_pos c150] at H
     have c150b0 : decide (0 ≤ a4) = true := decide_eq_true c150
     clear c150
     by_cases c151 : a4 < (y416.length : Int)
     ·rw [if_pos c151] at H
      have c151b0 : decide (a4 < (y416.length : Int)) = true := decide_eq_true c151
      clear c151
      obtain ⟨y419, hy419⟩ : ∃ y_ : List Int, y_ = (y416.set (a4 : Int).toNat 1) := ⟨_, rfl⟩
      replace H : ((impl_PairTime.f kj137 l3).bind fun bt420 => ((impl_PairTime.f kj137 y419).bind fun bt422 => (if bt420.2 = true then (if bt422.2 = true then (if (wrap64 (bt420.1 - bt422.1)) = t378 then (laws_FnPairsChangeOfAll.j8 kj137 a5 a6 a7 t390 t391) else (none)) else (none)) else (none)))) = some r := by first | (rw [hy419]; with_reducible exact H) | (have H2_ := (Option.bind_some _ _).symm.trans H; rw [hy419]; with_reducible exact H2_) | (have H2_ := (Option.bind_some _ _).symm.trans H; with_reducible exact H2_) | with_reducible exact H | (rw [hy419]; exact H) | exact H
      have Ny419 := Aside0.mk hy419
      clear hy419
      replace H := Option.bind_eq_some_iff.mp H
      obtain ⟨⟨t420, t421⟩, A1530, H⟩ := H
      replace H : ((impl_PairTime.f kj137 y419).bind fun bt422 => (if t421 = true then (if bt422.2 = true then (if (wrap64 (t420 - bt422.1)) = t378 then (laws_FnPairsChangeOfAll.j8 kj137 a5 a6 a7 t390 t391) else (none)) else (none)) else (none))) = some r := H
      have A153 := Aside0.mk A1530
      clear A1530
      replace H := Option.bind_eq_some_iff.mp H
      obtain ⟨⟨t422, t423⟩, A1540, H⟩ := H
      replace H : (if t421 = true then (if t423 = true then (if (wrap64 (t420 - t422)) = t378 then (laws_FnPairsChangeOfAll.j8 kj137 a5 a6 a7 t390 t391) else (none)) else (none)) else (none)) = some r := H
      have A154 := Aside0.mk A1540
      clear A1540
      by_cases c155 : t421 = true
      ·subst c155
       have H1 : (if t423 = true then (if (wrap64 (t420 - t422)) = t378 then (laws_FnPairsChangeOfAll.j8 kj137 a5 a6 a7 t390 t391) else (none)) else (none)) = some r := by rw [if_pos rfl] at H; exact H
       clear H
       have H := H1
       clear H1
       by_cases c156 : t423 = true
       ·subst c156
        have H1 : (if (wrap64 (t420 - t422)) = t378 then (laws_FnPairsChangeOfAll.j8 kj137 a5 a6 a7 t390 t391) else (none)) = some r := by rw [if_pos rfl] at H; exact H
        clear H
        have H := H1
        clear H1
        by_cases c157 : (wrap64 (t420 - t422)) = t378
        ·rw [if_pos c157] at H
         have c157b0 : ((wrap64 (t420 - t422)) == t378) = true := beq_iff_eq.mpr c157
         have c157b1 : ((wrap64 (t420 - t422)) != t378) = false := bne_eq_false_iff_eq.mpr c157
         clear c157
         have H' := Aside0.mk H
         clear H
         go_wp2_with (first | ((with_reducible refine gate_dst (N := 426) rfl ?_); (try (refine gate_guard (by rfl) ?_; dsimp only)); refine Kd.R_lit (Kd.int .i64) _ 3 ?hg (N := 426) ?hd (xs := ([] : List Int)) (inner := []) (ok := fun _ => True) (okp := fun _ => True) ?hr ?hp (fun _ hk => hk) trivial (Below.refl _ _) (Nat.le_refl _) (by simp) ?_; (case hd => rfl); (case hg => rfl); (case hr => first | (go_simp; done) | (go_simp; rfl)); (case hp => exact (Reps.none _ _)); intro v414 w158 ho159 hb hg_ hnew_; clear hg_ hnew_; (first | rw [← Ny413.out] at ho159 | (simp only [Int.reduceToNat] at ho159; rw [← Ny413.out] at ho159)); have n0_ := Aside0.mk (Kd.R_elder' (by (with_reducible repeat (first | apply Kd.R_alloc | apply Kd.R_drewN | apply Kd.R_drew)); exact HO_56.out) (Kd.R_base ho159) hb); have n1_ := Aside0.mk (Kd.R_lower (Kd.R_new' ho159 (Kd.R_lt (by (with_reducible repeat (first | apply Kd.R_alloc | apply Kd.R_drewN | apply Kd.R_drew)); exact HO_56.out))) (below_size (by repeat (first | (with_reducible first | exact HB.out | apply below_alloc | apply pw_below_drewN | apply below_drew1) | exact HB.out)))); have n2_ := Aside0.mk (below_step (by repeat (first | (with_reducible first | exact HB.out | apply below_alloc | apply pw_below_drewN | apply below_drew1) | exact HB.out)) hb); clear HO_56; clear HB; have HO_56 := n0_; have HO415 := n1_; have HB := n2_; clear n0_ n1_ n2_; clear hb ho159) | ((with_reducible refine gate_builtin (b := .append) (xs := #[.tmp 426, .tmp 427]) rfl ?_); (try (refine gate_guard (by rfl) ?_; dsimp only)); at_builtin; refine Kd.R_append_rows (Kd.int .i64) (w0 := w) w.heap.size rfl (.tmp 426) (.tmp 427) 22 3 (.int .i64 0) 8 rfl Try.underlying22 info3 rfl (by decide) (by omega) v414 y413 l3 _ _ _ (fun k_ => some k_ ≠ (v392 : Value).ownBlock) (fun _ => False) rfl rfl ?aO ?aR (fun _ _ h => h) (fun _ h => h.elim) ?aF ?aB ?aS ?aL ?_; (case aR => repeat (first | exact (Kd.C_below HR3.out HB.out) | (with_reducible refine Kd.C_alloc ?_ _) | (with_reducible refine Kd.C_drewN ?_ _) | (with_reducible refine Kd.C_drew ?_))); (case aB => exact (by repeat (first | (with_reducible first | exact HB.out | apply below_alloc | apply pw_below_drewN | apply below_drew1) | exact HB.out))); (case aF => exact (fun k_ hk => Kd.fresh' (Kd.R_lt (by (with_reducible repeat (first | apply Kd.R_alloc | apply Kd.R_drewN | apply Kd.R_drew)); exact HO_56.out)) k_ hk)); (case aO => exact (by (with_reducible repeat (first | apply Kd.R_alloc | apply Kd.R_drewN | apply Kd.R_drew)); exact Kd.R_mono HO415.out (fun _ hk => hk.2))); (case aS => exact (below_size (by repeat (first | (with_reducible first | exact HB.out | apply below_alloc | apply pw_below_drewN | apply below_drew1) | exact HB.out)))); (case aL => have := LMc149.out; omega); intro v417 w160 ho hb hg hat; rw [← Ny416.out] at ho; have n0_ := Aside0.mk (Kd.R_after (ok := (fun _ => True)) (by (with_reducible repeat (first | apply Kd.R_alloc | apply Kd.R_drewN | apply Kd.R_drew)); exact HO_56.out) hg hat); have n1_ := Aside0.mk (hb); have n2_ := Aside0.mk (ho); clear HO_56; clear HB; clear HO415; have HO_56 := n0_; have HB := n1_; have HO418 := n2_; clear n0_ n1_ n2_; clear ho hb hg hat; have p152 : 0 ≤ (a4 : Int) := of_decide_eq_true (by first | (with_reducible assumption) | assumption); have q152 : (a4 : Int) < ((y416.length : Int) : Int) := of_decide_eq_true (by first | (with_reducible assumption) | assumption); obtain ⟨go152, co152, eo152, gb152, gl152, cl152, HG152⟩ := Kd.R_form HO418.out (by omega); (first | cases eo152 | (injection eo152 with ea_ en_ ec_; (first | subst ea_ | (injection ea_ with ea_; subst ea_)); subst ec_; clear en_)); have GB152 := Aside0.mk gb152; have GG152 := Aside0.mk HG152; clear gb152 gl152 HG152; obtain ⟨hx152_0, hf152_0⟩ := Kd.R_celln 0 HO418.out (a4 : Int) p152 q152; replace p152 := eq_true p152; replace q152 := eq_true q152; obtain ⟨hy161_, hz161_⟩ := Kd.R_celln 0 HO418.out (a4 : Int) (of_decide_eq_true (by first | (with_reducible assumption) | assumption)) (of_decide_eq_true (by first | (with_reducible assumption) | assumption)); have HP161 := Kd.R_putg HO418.out (a4 : Int) 1) | ((with_reducible refine gate_store (t := 3) (p := 431) rfl ?_); (try (rw [drewN_self w160]; generalize hq_ : World.drewN w160 _ = w160; have n0_ := Aside0.mk (Kd.R_at hq_ HO_56.out); have n1_ := Aside0.mk (Kd.R_at hq_ HO418.out); have n2_ := Aside0.mk (below_at hq_ HB.out); clear hq_ HO_56 HO418 HB; have HO_56 := n0_; have HO418 := n1_; have HB := n2_; clear n0_ n1_ n2_; (try (obtain ⟨hy161_, hz161_⟩ := Kd.R_celln 0 HO418.out (a4 : Int) (of_decide_eq_true (by first | (with_reducible assumption) | assumption)) (of_decide_eq_true (by first | (with_reducible assumption) | assumption)))); (try (have HP161 := Kd.R_putg HO418.out (a4 : Int) 1)))); refine store_event (t := 3) (p := 431) (v := ?vo_w162) (w1 := (w160.setCell ⟨go152, (a4 : Int).toNat, none⟩ (.int .i64 1))) ?hg ?ho ?hn ?hr ?_; (case ho => rfl); (case hg => rfl); (case hn => rfl); (case hr => first | (go_simp; done) | (go_simp; rfl)); intro w162 hw; have hg : w160.grownBy w162 (some go152) := (by rw [hw]; exact HP161.2); have hp_ : Kd.R (Kd.int .i64) 3 w162 w.heap.size (fun k_ => some k_ ≠ (v392 : Value).ownBlock) (.slice (some ⟨go152, 0, none⟩) y416.length co152) y419 := (by rw [hw, Ny419.out]; exact HP161.1); clear HP161; have n0_ := Aside0.mk (Kd.R_after (v := (.slice (some ⟨go152, 0, none⟩) y416.length co152)) (v1 := (.slice (some ⟨go152, 0, none⟩) y416.length co152)) (ok := (fun _ => True)) (by (with_reducible repeat (first | apply Kd.R_alloc | apply Kd.R_drewN | apply Kd.R_drew)); exact HO_56.out) hg (.inl rfl)); have n1_ := Aside0.mk (hp_); have n2_ := Aside0.mk ((by rw [hw]; exact below_set (HB.out) GB152.out : Below w.heap.size w w162)); clear HO_56; clear HO418; clear HB; have HO_56 := n0_; have HO418 := n1_; have HB := n2_; clear n0_ n1_ n2_; clear hg hw hp_) | (go_at_call 10; (with_reducible refine (impl_PairTime.calls kj137 _ _ l3 t420 true _ ?side1 ?side2 A153.out).mono ?_); (case side1 => repeat (first | exact (Kd.C_below HR3.out HB.out) | (with_reducible refine Kd.C_alloc ?_ _) | (with_reducible refine Kd.C_drewN ?_ _) | (with_reducible refine Kd.C_drew ?_))); (case side2 => exact HC3.out); rintro e w163 ⟨rfl, hb⟩; have n0_ := Aside0.mk (Kd.R_below (by (with_reducible repeat (first | apply Kd.R_alloc | apply Kd.R_drewN | apply Kd.R_drew)); exact HO_56.out) hb); have n1_ := Aside0.mk (Kd.R_below (by (with_reducible repeat (first | apply Kd.R_alloc | apply Kd.R_drewN | apply Kd.R_drew)); exact HO418.out) hb); have n2_ := Aside0.mk (below_step (by repeat (first | (with_reducible first | exact HB.out | apply below_alloc | apply pw_below_drewN | apply below_drew1) | exact HB.out)) hb); clear HO_56; clear HO418; clear HB; have HO_56 := n0_; have HO418 := n1_; have HB := n2_; clear n0_ n1_ n2_; (try clear hb); (try clear hb2); (try clear hk); (try clear hi)) | (go_at_call 10; refine calls_of_args (args' := #[.slice (some ⟨go152, 0, none⟩) y419.length co152]) (by first | (rw [show y419.length = y416.length from (Kd.R_reads' HO418.out).1.symm] <;> rfl) | rfl) ?_; (with_reducible refine (impl_PairTime.calls kj137 _ _ y419 t422 true _ ?side1 ?side2 A154.out).mono ?_); (case side1 => repeat (first | exact (Kd.R_reads' HO418.out).2.2 | (with_reducible refine Kd.C_alloc ?_ _) | (with_reducible refine Kd.C_drewN ?_ _) | (with_reducible refine Kd.C_drew ?_))); (case side2 => rw [show y419.length = y416.length from (Kd.R_reads' HO418.out).1.symm]; exact (Kd.R_reads' HO418.out).2.1); rintro e w164 ⟨rfl, hb⟩; have n0_ := Aside0.mk (Kd.R_below (by (with_reducible repeat (first | apply Kd.R_alloc | apply Kd.R_drewN | apply Kd.R_drew)); exact HO_56.out) hb); have n1_ := Aside0.mk (Kd.R_below (by (with_reducible repeat (first | apply Kd.R_alloc | apply Kd.R_drewN | apply Kd.R_drew)); exact HO418.out) hb); have n2_ := Aside0.mk (below_step (by repeat (first | (with_reducible first | exact HB.out | apply below_alloc | apply pw_below_drewN | apply below_drew1) | exact HB.out)) hb); clear HO_56; clear HO418; clear HB; have HO_56 := n0_; have HO418 := n1_; have HB := n2_; clear n0_ n1_ n2_; (try clear hb); (try clear hb2); (try clear hk); (try clear hi)))
         repeat (go_quiet (first | ((with_reducible refine gate_dst (N := 426) rfl ?_); (try (refine gate_guard (by rfl) ?_; dsimp only)); refine Kd.R_lit (Kd.int .i64) _ 3 ?hg (N := 426) ?hd (xs := ([] : List Int)) (inner := []) (ok := fun _ => True) (okp := fun _ => True) ?hr ?hp (fun _ hk => hk) trivial (Below.refl _ _) (Nat.le_refl _) (by simp) ?_; (case hd => rfl); (case hg => rfl); (case hr => first | (go_simp; done) | (go_simp; rfl)); (case hp => exact (Reps.none _ _)); intro v414 w158 ho159 hb hg_ hnew_; clear hg_ hnew_; (first | rw [← Ny413.out] at ho159 | (simp only [Int.reduceToNat] at ho159; rw [← Ny413.out] at ho159)); have n0_ := Aside0.mk (Kd.R_elder' (by (with_reducible repeat (first | apply Kd.R_alloc | apply Kd.R_drewN | apply Kd.R_drew)); exact HO_56.out) (Kd.R_base ho159) hb); have n1_ := Aside0.mk (Kd.R_lower (Kd.R_new' ho159 (Kd.R_lt (by (with_reducible repeat (first | apply Kd.R_alloc | apply Kd.R_drewN | apply Kd.R_drew)); exact HO_56.out))) (below_size (by repeat (first | (with_reducible first | exact HB.out | apply below_alloc | apply pw_below_drewN | apply below_drew1) | exact HB.out)))); have n2_ := Aside0.mk (below_step (by repeat (first | (with_reducible first | exact HB.out | apply below_alloc | apply pw_below_drewN | apply below_drew1) | exact HB.out)) hb); clear HO_56; clear HB; have HO_56 := n0_; have HO415 := n1_; have HB := n2_; clear n0_ n1_ n2_; clear hb ho159) | ((with_reducible refine gate_builtin (b := .append) (xs := #[.tmp 426, .tmp 427]) rfl ?_); (try (refine gate_guard (by rfl) ?_; dsimp only)); at_builtin; refine Kd.R_append_rows (Kd.int .i64) (w0 := w) w.heap.size rfl (.tmp 426) (.tmp 427) 22 3 (.int .i64 0) 8 rfl Try.underlying22 info3 rfl (by decide) (by omega) v414 y413 l3 _ _ _ (fun k_ => some k_ ≠ (v392 : Value).ownBlock) (fun _ => False) rfl rfl ?aO ?aR (fun _ _ h => h) (fun _ h => h.elim) ?aF ?aB ?aS ?aL ?_; (case aR => repeat (first | exact (Kd.C_below HR3.out HB.out) | (with_reducible refine Kd.C_alloc ?_ _) | (with_reducible refine Kd.C_drewN ?_ _) | (with_reducible refine Kd.C_drew ?_))); (case aB => exact (by repeat (first | (with_reducible first | exact HB.out | apply below_alloc | apply pw_below_drewN | apply below_drew1) | exact HB.out))); (case aF => exact (fun k_ hk => Kd.fresh' (Kd.R_lt (by (with_reducible repeat (first | apply Kd.R_alloc | apply Kd.R_drewN | apply Kd.R_drew)); exact HO_56.out)) k_ hk)); (case aO => exact (by (with_reducible repeat (first | apply Kd.R_alloc | apply Kd.R_drewN | apply Kd.R_drew)); exact Kd.R_mono HO415.out (fun _ hk => hk.2))); (case aS => exact (below_size (by repeat (first | (with_reducible first | exact HB.out | apply below_alloc | apply pw_below_drewN | apply below_drew1) | exact HB.out)))); (case aL => have := LMc149.out; omega); intro v417 w160 ho hb hg hat; rw [← Ny416.out] at ho; have n0_ := Aside0.mk (Kd.R_after (ok := (fun _ => True)) (by (with_reducible repeat (first | apply Kd.R_alloc | apply Kd.R_drewN | apply Kd.R_drew)); exact HO_56.out) hg hat); have n1_ := Aside0.mk (hb); have n2_ := Aside0.mk (ho); clear HO_56; clear HB; clear HO415; have HO_56 := n0_; have HB := n1_; have HO418 := n2_; clear n0_ n1_ n2_; clear ho hb hg hat; have p152 : 0 ≤ (a4 : Int) := of_decide_eq_true (by first | (with_reducible assumption) | assumption); have q152 : (a4 : Int) < ((y416.length : Int) : Int) := of_decide_eq_true (by first | (with_reducible assumption) | assumption); obtain ⟨go152, co152, eo152, gb152, gl152, cl152, HG152⟩ := Kd.R_form HO418.out (by omega); (first | cases eo152 | (injection eo152 with ea_ en_ ec_; (first | subst ea_ | (injection ea_ with ea_; subst ea_)); subst ec_; clear en_)); have GB152 := Aside0.mk gb152; have GG152 := Aside0.mk HG152; clear gb152 gl152 HG152; obtain ⟨hx152_0, hf152_0⟩ := Kd.R_celln 0 HO418.out (a4 : Int) p152 q152; replace p152 := eq_true p152; replace q152 := eq_true q152; obtain ⟨hy161_, hz161_⟩ := Kd.R_celln 0 HO418.out (a4 : Int) (of_decide_eq_true (by first | (with_reducible assumption) | assumption)) (of_decide_eq_true (by first | (with_reducible assumption) | assumption)); have HP161 := Kd.R_putg HO418.out (a4 : Int) 1) | ((with_reducible refine gate_store (t := 3) (p := 431) rfl ?_); (try (rw [drewN_self w160]; generalize hq_ : World.drewN w160 _ = w160; have n0_ := Aside0.mk (Kd.R_at hq_ HO_56.out); have n1_ := Aside0.mk (Kd.R_at hq_ HO418.out); have n2_ := Aside0.mk (below_at hq_ HB.out); clear hq_ HO_56 HO418 HB; have HO_56 := n0_; have HO418 := n1_; have HB := n2_; clear n0_ n1_ n2_; (try (obtain ⟨hy161_, hz161_⟩ := Kd.R_celln 0 HO418.out (a4 : Int) (of_decide_eq_true (by first | (with_reducible assumption) | assumption)) (of_decide_eq_true (by first | (with_reducible assumption) | assumption)))); (try (have HP161 := Kd.R_putg HO418.out (a4 : Int) 1)))); refine store_event (t := 3) (p := 431) (v := ?vo_w162) (w1 := (w160.setCell ⟨go152, (a4 : Int).toNat, none⟩ (.int .i64 1))) ?hg ?ho ?hn ?hr ?_; (case ho => rfl); (case hg => rfl); (case hn => rfl); (case hr => first | (go_simp; done) | (go_simp; rfl)); intro w162 hw; have hg : w160.grownBy w162 (some go152) := (by rw [hw]; exact HP161.2); have hp_ : Kd.R (Kd.int .i64) 3 w162 w.heap.size (fun k_ => some k_ ≠ (v392 : Value).ownBlock) (.slice (some ⟨go152, 0, none⟩) y416.length co152) y419 := (by rw [hw, Ny419.out]; exact HP161.1); clear HP161; have n0_ := Aside0.mk (Kd.R_after (v := (.slice (some ⟨go152, 0, none⟩) y416.length co152)) (v1 := (.slice (some ⟨go152, 0, none⟩) y416.length co152)) (ok := (fun _ => True)) (by (with_reducible repeat (first | apply Kd.R_alloc | apply Kd.R_drewN | apply Kd.R_drew)); exact HO_56.out) hg (.inl rfl)); have n1_ := Aside0.mk (hp_); have n2_ := Aside0.mk ((by rw [hw]; exact below_set (HB.out) GB152.out : Below w.heap.size w w162)); clear HO_56; clear HO418; clear HB; have HO_56 := n0_; have HO418 := n1_; have HB := n2_; clear n0_ n1_ n2_; clear hg hw hp_) | (go_at_call 10; (with_reducible refine (impl_PairTime.calls kj137 _ _ l3 t420 true _ ?side1 ?side2 A153.out).mono ?_); (case side1 => repeat (first | exact (Kd.C_below HR3.out HB.out) | (with_reducible refine Kd.C_alloc ?_ _) | (with_reducible refine Kd.C_drewN ?_ _) | (with_reducible refine Kd.C_drew ?_))); (case side2 => exact HC3.out); rintro e w163 ⟨rfl, hb⟩; have n0_ := Aside0.mk (Kd.R_below (by (with_reducible repeat (first | apply Kd.R_alloc | apply Kd.R_drewN | apply Kd.R_drew)); exact HO_56.out) hb); have n1_ := Aside0.mk (Kd.R_below (by (with_reducible repeat (first | apply Kd.R_alloc | apply Kd.R_drewN | apply Kd.R_drew)); exact HO418.out) hb); have n2_ := Aside0.mk (below_step (by repeat (first | (with_reducible first | exact HB.out | apply below_alloc | apply pw_below_drewN | apply below_drew1) | exact HB.out)) hb); clear HO_56; clear HO418; clear HB; have HO_56 := n0_; have HO418 := n1_; have HB := n2_; clear n0_ n1_ n2_; (try clear hb); (try clear hb2); (try clear hk); (try clear hi)) | (go_at_call 10; refine calls_of_args (args' := #[.slice (some ⟨go152, 0, none⟩) y419.length co152]) (by first | (rw [show y419.length = y416.length from (Kd.R_reads' HO418.out).1.symm] <;> rfl) | rfl) ?_; (with_reducible refine (impl_PairTime.calls kj137 _ _ y419 t422 true _ ?side1 ?side2 A154.out).mono ?_); (case side1 => repeat (first | exact (Kd.R_reads' HO418.out).2.2 | (with_reducible refine Kd.C_alloc ?_ _) | (with_reducible refine Kd.C_drewN ?_ _) | (with_reducible refine Kd.C_drew ?_))); (case side2 => rw [show y419.length = y416.length from (Kd.R_reads' HO418.out).1.symm]; exact (Kd.R_reads' HO418.out).2.1); rintro e w164 ⟨rfl, hb⟩; have n0_ := Aside0.mk (Kd.R_below (by (with_reducible repeat (first | apply Kd.R_alloc | apply Kd.R_drewN | apply Kd.R_drew)); exact HO_56.out) hb); have n1_ := Aside0.mk (Kd.R_below (by (with_reducible repeat (first | apply Kd.R_alloc | apply Kd.R_drewN | apply Kd.R_drew)); exact HO418.out) hb); have n2_ := Aside0.mk (below_step (by repeat (first | (with_reducible first | exact HB.out | apply below_alloc | apply pw_below_drewN | apply below_drew1) | exact HB.out)) hb); clear HO_56; clear HO418; clear HB; have HO_56 := n0_; have HO418 := n1_; have HB := n2_; clear n0_ n1_ n2_; (try clear hb); (try clear hb2); (try clear hk); (try clear hi))); try go_wp2_with (first | ((with_reducible refine gate_dst (N := 426) rfl ?_); (try (refine gate_guard (by rfl) ?_; dsimp only)); refine Kd.R_lit (Kd.int .i64) _ 3 ?hg (N := 426) ?hd (xs := ([] : List Int)) (inner := []) (ok := fun _ => True) (okp := fun _ => True) ?hr ?hp (fun _ hk => hk) trivial (Below.refl _ _) (Nat.le_refl _) (by simp) ?_; (case hd => rfl); (case hg => rfl); (case hr => first | (go_simp; done) | (go_simp; rfl)); (case hp => exact (Reps.none _ _)); intro v414 w158 ho159 hb hg_ hnew_; clear hg_ hnew_; (first | rw [← Ny413.out] at ho159 | (simp only [Int.reduceToNat] at ho159; rw [← Ny413.out] at ho159)); have n0_ := Aside0.mk (Kd.R_elder' (by (with_reducible repeat (first | apply Kd.R_alloc | apply Kd.R_drewN | apply Kd.R_drew)); exact HO_56.out) (Kd.R_base ho159) hb); have n1_ := Aside0.mk (Kd.R_lower (Kd.R_new' ho159 (Kd.R_lt (by (with_reducible repeat (first | apply Kd.R_alloc | apply Kd.R_drewN | apply Kd.R_drew)); exact HO_56.out))) (below_size (by repeat (first | (with_reducible first | exact HB.out | apply below_alloc | apply pw_below_drewN | apply below_drew1) | exact HB.out)))); have n2_ := Aside0.mk (below_step (by repeat (first | (with_reducible first | exact HB.out | apply below_alloc | apply pw_below_drewN | apply below_drew1) | exact HB.out)) hb); clear HO_56; clear HB; have HO_56 := n0_; have HO415 := n1_; have HB := n2_; clear n0_ n1_ n2_; clear hb ho159) | ((with_reducible refine gate_builtin (b := .append) (xs := #[.tmp 426, .tmp 427]) rfl ?_); (try (refine gate_guard (by rfl) ?_; dsimp only)); at_builtin; refine Kd.R_append_rows (Kd.int .i64) (w0 := w) w.heap.size rfl (.tmp 426) (.tmp 427) 22 3 (.int .i64 0) 8 rfl Try.underlying22 info3 rfl (by decide) (by omega) v414 y413 l3 _ _ _ (fun k_ => some k_ ≠ (v392 : Value).ownBlock) (fun _ => False) rfl rfl ?aO ?aR (fun _ _ h => h) (fun _ h => h.elim) ?aF ?aB ?aS ?aL ?_; (case aR => repeat (first | exact (Kd.C_below HR3.out HB.out) | (with_reducible refine Kd.C_alloc ?_ _) | (with_reducible refine Kd.C_drewN ?_ _) | (with_reducible refine Kd.C_drew ?_))); (case aB => exact (by repeat (first | (with_reducible first | exact HB.out | apply below_alloc | apply pw_below_drewN | apply below_drew1) | exact HB.out))); (case aF => exact (fun k_ hk => Kd.fresh' (Kd.R_lt (by (with_reducible repeat (first | apply Kd.R_alloc | apply Kd.R_drewN | apply Kd.R_drew)); exact HO_56.out)) k_ hk)); (case aO => exact (by (with_reducible repeat (first | apply Kd.R_alloc | apply Kd.R_drewN | apply Kd.R_drew)); exact Kd.R_mono HO415.out (fun _ hk => hk.2))); (case aS => exact (below_size (by repeat (first | (with_reducible first | exact HB.out | apply below_alloc | apply pw_below_drewN | apply below_drew1) | exact HB.out)))); (case aL => have := LMc149.out; omega); intro v417 w160 ho hb hg hat; rw [← Ny416.out] at ho; have n0_ := Aside0.mk (Kd.R_after (ok := (fun _ => True)) (by (with_reducible repeat (first | apply Kd.R_alloc | apply Kd.R_drewN | apply Kd.R_drew)); exact HO_56.out) hg hat); have n1_ := Aside0.mk (hb); have n2_ := Aside0.mk (ho); clear HO_56; clear HB; clear HO415; have HO_56 := n0_; have HB := n1_; have HO418 := n2_; clear n0_ n1_ n2_; clear ho hb hg hat; have p152 : 0 ≤ (a4 : Int) := of_decide_eq_true (by first | (with_reducible assumption) | assumption); have q152 : (a4 : Int) < ((y416.length : Int) : Int) := of_decide_eq_true (by first | (with_reducible assumption) | assumption); obtain ⟨go152, co152, eo152, gb152, gl152, cl152, HG152⟩ := Kd.R_form HO418.out (by omega); (first | cases eo152 | (injection eo152 with ea_ en_ ec_; (first | subst ea_ | (injection ea_ with ea_; subst ea_)); subst ec_; clear en_)); have GB152 := Aside0.mk gb152; have GG152 := Aside0.mk HG152; clear gb152 gl152 HG152; obtain ⟨hx152_0, hf152_0⟩ := Kd.R_celln 0 HO418.out (a4 : Int) p152 q152; replace p152 := eq_true p152; replace q152 := eq_true q152; obtain ⟨hy161_, hz161_⟩ := Kd.R_celln 0 HO418.out (a4 : Int) (of_decide_eq_true (by first | (with_reducible assumption) | assumption)) (of_decide_eq_true (by first | (with_reducible assumption) | assumption)); have HP161 := Kd.R_putg HO418.out (a4 : Int) 1) | ((with_reducible refine gate_store (t := 3) (p := 431) rfl ?_); (try (rw [drewN_self w160]; generalize hq_ : World.drewN w160 _ = w160; have n0_ := Aside0.mk (Kd.R_at hq_ HO_56.out); have n1_ := Aside0.mk (Kd.R_at hq_ HO418.out); have n2_ := Aside0.mk (below_at hq_ HB.out); clear hq_ HO_56 HO418 HB; have HO_56 := n0_; have HO418 := n1_; have HB := n2_; clear n0_ n1_ n2_; (try (obtain ⟨hy161_, hz161_⟩ := Kd.R_celln 0 HO418.out (a4 : Int) (of_decide_eq_true (by first | (with_reducible assumption) | assumption)) (of_decide_eq_true (by first | (with_reducible assumption) | assumption)))); (try (have HP161 := Kd.R_putg HO418.out (a4 : Int) 1)))); refine store_event (t := 3) (p := 431) (v := ?vo_w162) (w1 := (w160.setCell ⟨go152, (a4 : Int).toNat, none⟩ (.int .i64 1))) ?hg ?ho ?hn ?hr ?_; (case ho => rfl); (case hg => rfl); (case hn => rfl); (case hr => first | (go_simp; done) | (go_simp; rfl)); intro w162 hw; have hg : w160.grownBy w162 (some go152) := (by rw [hw]; exact HP161.2); have hp_ : Kd.R (Kd.int .i64) 3 w162 w.heap.size (fun k_ => some k_ ≠ (v392 : Value).ownBlock) (.slice (some ⟨go152, 0, none⟩) y416.length co152) y419 := (by rw [hw, Ny419.out]; exact HP161.1); clear HP161; have n0_ := Aside0.mk (Kd.R_after (v := (.slice (some ⟨go152, 0, none⟩) y416.length co152)) (v1 := (.slice (some ⟨go152, 0, none⟩) y416.length co152)) (ok := (fun _ => True)) (by (with_reducible repeat (first | apply Kd.R_alloc | apply Kd.R_drewN | apply Kd.R_drew)); exact HO_56.out) hg (.inl rfl)); have n1_ := Aside0.mk (hp_); have n2_ := Aside0.mk ((by rw [hw]; exact below_set (HB.out) GB152.out : Below w.heap.size w w162)); clear HO_56; clear HO418; clear HB; have HO_56 := n0_; have HO418 := n1_; have HB := n2_; clear n0_ n1_ n2_; clear hg hw hp_) | (go_at_call 10; (with_reducible refine (impl_PairTime.calls kj137 _ _ l3 t420 true _ ?side1 ?side2 A153.out).mono ?_); (case side1 => repeat (first | exact (Kd.C_below HR3.out HB.out) | (with_reducible refine Kd.C_alloc ?_ _) | (with_reducible refine Kd.C_drewN ?_ _) | (with_reducible refine Kd.C_drew ?_))); (case side2 => exact HC3.out); rintro e w163 ⟨rfl, hb⟩; have n0_ := Aside0.mk (Kd.R_below (by (with_reducible repeat (first | apply Kd.R_alloc | apply Kd.R_drewN | apply Kd.R_drew)); exact HO_56.out) hb); have n1_ := Aside0.mk (Kd.R_below (by (with_reducible repeat (first | apply Kd.R_alloc | apply Kd.R_drewN | apply Kd.R_drew)); exact HO418.out) hb); have n2_ := Aside0.mk (below_step (by repeat (first | (with_reducible first | exact HB.out | apply below_alloc | apply pw_below_drewN | apply below_drew1) | exact HB.out)) hb); clear HO_56; clear HO418; clear HB; have HO_56 := n0_; have HO418 := n1_; have HB := n2_; clear n0_ n1_ n2_; (try clear hb); (try clear hb2); (try clear hk); (try clear hi)) | (go_at_call 10; refine calls_of_args (args' := #[.slice (some ⟨go152, 0, none⟩) y419.length co152]) (by first | (rw [show y419.length = y416.length from (Kd.R_reads' HO418.out).1.symm] <;> rfl) | rfl) ?_; (with_reducible refine (impl_PairTime.calls kj137 _ _ y419 t422 true _ ?side1 ?side2 A154.out).mono ?_); (case side1 => repeat (first | exact (Kd.R_reads' HO418.out).2.2 | (with_reducible refine Kd.C_alloc ?_ _) | (with_reducible refine Kd.C_drewN ?_ _) | (with_reducible refine Kd.C_drew ?_))); (case side2 => rw [show y419.length = y416.length from (Kd.R_reads' HO418.out).1.symm]; exact (Kd.R_reads' HO418.out).2.1); rintro e w164 ⟨rfl, hb⟩; have n0_ := Aside0.mk (Kd.R_below (by (with_reducible repeat (first | apply Kd.R_alloc | apply Kd.R_drewN | apply Kd.R_drew)); exact HO_56.out) hb); have n1_ := Aside0.mk (Kd.R_below (by (with_reducible repeat (first | apply Kd.R_alloc | apply Kd.R_drewN | apply Kd.R_drew)); exact HO418.out) hb); have n2_ := Aside0.mk (below_step (by repeat (first | (with_reducible first | exact HB.out | apply below_alloc | apply pw_below_drewN | apply below_drew1) | exact HB.out)) hb); clear HO_56; clear HO418; clear HB; have HO_56 := n0_; have HO418 := n1_; have HB := n2_; clear n0_ n1_ n2_; (try clear hb); (try clear hb2); (try clear hk); (try clear hi))))
         refine Met.intro ?_
         go_step
         refine laws_FnPairsChangeOfAll.C8.meet _ _ _ _ _ _ _ _ _ _ _ _ _ _ _ _ _ _ _ _ rfl rfl rfl rfl rfl rfl rfl rfl rfl rfl rfl ?_
         exact ⟨_, (t390), H', ⟨by have := HJ8.out; have := HJ22.out; have := HJ83.out; have := HJ119.out; have := HJ137.out; first | omega | exact Nat.le_refl _⟩, ⟨by (with_reducible repeat (first | apply Kd.R_alloc | apply Kd.R_drewN | apply Kd.R_drew)); exact Kd.R_mono HO_56.out (fun _ hk => trivial)⟩, ⟨by repeat (first | (with_reducible first | exact HB.out | apply below_alloc | apply pw_below_drewN | apply below_drew1) | exact HB.out)⟩⟩
        ·rw [if_neg c157] at H
         exact absurd H (by simp)
       ·replace c156 := Bool.eq_false_iff.mpr c156
        subst c156
        have H1 : (none) = some r := by rw [if_neg (show ¬ (false = true) by decide)] at H; exact H
        clear H
        have H := H1
        clear H1
        exact absurd H (by simp)
      ·replace c155 := Bool.eq_false_iff.mpr c155
       subst c155
       have H1 : (none) = some r := by rw [if_neg (show ¬ (false = true) by decide)] at H; exact H
       clear H
       have H := H1
       clear H1
       exact absurd H (by simp)
     ·rw [if_neg c151] at H
      exact absurd H (by simp)
    ·rw [if_neg c150] at H
     exact absurd H (by simp)
   ·rw [if_neg c149] at H
    exact absurd H (by simp)
set_option maxHeartbeats 8000000 in
set_option maxRecDepth 100000 in
theorem laws_FnPairsChangeOfAll.rest8 (k : Nat) (A0 : Option Addr) (c0 : Nat) (l0 : List Int) (A1 : Option Addr) (c1 : Nat) (l1 : List Int) (a2 : Int) (A3 : Option Addr) (c3 : Nat) (l3 : List Int) (a4 a5 a6 a7 : Int) (r : Bool) (w : World) (HR0 : Aside0 (Kd.C (Kd.int .i64) w A0 l0.length l0)) (HC0 : Aside0 (l0.length ≤ c0)) (HR1 : Aside0 (Kd.C (Kd.int .i64) w A1 l1.length l1)) (HC1 : Aside0 (l1.length ≤ c1)) (HR3 : Aside0 (Kd.C (Kd.int .i64) w A3 l3.length l3)) (HC3 : Aside0 (l3.length ≤ c3)) (kj8 kj22 kj83 kj119 : Nat) (HJ8 : Aside0 (kj8 + 1 ≤ k)) (HJ22 : Aside0 (kj22 + 1 ≤ kj8)) (HJ83 : Aside0 (kj83 + 1 ≤ kj22)) (HJ119 : Aside0 (kj119 + 1 ≤ kj83)) (t391 : Bool) (v392 : Value) (wc : World) (a' : Act) (hinv : laws_FnPairsChangeOfAll.C8 k A0 c0 l0 A1 c1 l1 a2 A3 c3 l3 a4 a5 a6 a7 r w kj119 t391 v392 a' wc) :
    Code.wp Try.prog (cutNx 21 (Try.f3.body.getD .skip)) (bodyPost Try.prog Try.f3 fun e w' => e = .returned (.bool r) ∧ Below w.heap.size w w') a' wc := by
 obtain ⟨uu, rfl, p0, p1, p2, p3, p4, p5, p6, p7, p56, p57, hcut⟩ := hinv
 rw [cutLit, p0, p1, p2, p3, p4, p5, p6, p7, p56, p57]
 clear p0 p1 p2 p3 p4 p5 p6 p7 p56 p57
 conv => enter [2]; whnf
 obtain ⟨kq, x56_135, HA, HJ135, HO_56, HB⟩ := hcut
 cases kq with
 | zero => exact absurd HA.out (by simp [laws_FnPairsChangeOfAll.j8])
 | succ kj135 =>
  have H := HA.out
  clear HA
  simp only [laws_FnPairsChangeOfAll.j8] at H
  by_cases c165 : t391 = true
  ·subst c165
   have H1 : ((impl_PairTime.f kj135 x56_135).bind fun bt424 => (if bt424.2 = true then (if bt424.1 = a7 then (if (x56_135.length : Int) = a5 then (laws_FnPairsChangeOfAll.l3 kj135 a6 x56_135 x56_135 (x56_135.length : Int) 0) else (none)) else (none)) else (none))) = some r := by rw [if_pos rfl] at H; exact H
   clear H
   have H := H1
   clear H1
   replace H := Option.bind_eq_some_iff.mp H
   obtain ⟨⟨t424, t425⟩, A1660, H⟩ := H
   replace H : (if t425 = true then (if t424 = a7 then (if (x56_135.length : Int) = a5 then (laws_FnPairsChangeOfAll.l3 kj135 a6 x56_135 x56_135 (x56_135.length : Int) 0) else (none)) else (none)) else (none)) = some r := H
   have A166 := Aside0.mk A1660
   clear A1660
   by_cases c167 : t425 = true
   ·subst c167
    have H1 : (if t424 = a7 then (if (x56_135.length : Int) = a5 then (laws_FnPairsChangeOfAll.l3 kj135 a6 x56_135 x56_135 (x56_135.length : Int) 0) else (none)) else (none)) = some r := by rw [if_pos rfl] at H; exact H
    clear H
    have H := H1
    clear H1
    by_cases c168 : t424 = a7
    ·rw [if_pos c168] at H
     have c168b0 : (t424 == a7) = true := beq_iff_eq.mpr c168
     have c168b1 : (t424 != a7) = false := bne_eq_false_iff_eq.mpr c168
     clear c168
     by_cases c169 : (x56_135.length : Int) = a5
     ·rw [if_pos c169] at H
      have c169b0 : ((x56_135.length : Int) == a5) = true := beq_iff_eq.mpr c169
      have c169b1 : ((x56_135.length : Int) != a5) = false := bne_eq_false_iff_eq.mpr c169
      clear c169
      have H' := Aside0.mk H
      clear H
      obtain ⟨Ao170, co170, eo170⟩ := Kd.R_slice HO_56.out
      subst eo170
      go_wp2_with (first | (go_at_call 10; (with_reducible refine (impl_PairTime.calls kj135 _ _ x56_135 t424 true _ ?side1 ?side2 A166.out).mono ?_); (case side1 => repeat (first | exact (Kd.R_reads' HO_56.out).2.2 | (with_reducible refine Kd.C_alloc ?_ _) | (with_reducible refine Kd.C_drewN ?_ _) | (with_reducible refine Kd.C_drew ?_))); (case side2 => exact (Kd.R_reads' HO_56.out).2.1); rintro e w171 ⟨rfl, hb⟩; have n0_ := Aside0.mk (Kd.R_below (by (with_reducible repeat (first | apply Kd.R_alloc | apply Kd.R_drewN | apply Kd.R_drew)); exact HO_56.out) hb); have n1_ := Aside0.mk (below_step (by repeat (first | (with_reducible first | exact HB.out | apply below_alloc | apply pw_below_drewN | apply below_drew1) | exact HB.out)) hb); clear HO_56; clear HB; have HO_56 := n0_; have HB := n1_; clear n0_ n1_; (try clear hb); (try clear hb2); (try clear hk); (try clear hi)))
      repeat (go_quiet (first | (go_at_call 10; (with_reducible refine (impl_PairTime.calls kj135 _ _ x56_135 t424 true _ ?side1 ?side2 A166.out).mono ?_); (case side1 => repeat (first | exact (Kd.R_reads' HO_56.out).2.2 | (with_reducible refine Kd.C_alloc ?_ _) | (with_reducible refine Kd.C_drewN ?_ _) | (with_reducible refine Kd.C_drew ?_))); (case side2 => exact (Kd.R_reads' HO_56.out).2.1); rintro e w171 ⟨rfl, hb⟩; have n0_ := Aside0.mk (Kd.R_below (by (with_reducible repeat (first | apply Kd.R_alloc | apply Kd.R_drewN | apply Kd.R_drew)); exact HO_56.out) hb); have n1_ := Aside0.mk (below_step (by repeat (first | (with_reducible first | exact HB.out | apply below_alloc | apply pw_below_drewN | apply below_drew1) | exact HB.out)) hb); clear HO_56; clear HB; have HO_56 := n0_; have HB := n1_; clear n0_ n1_; (try clear hb); (try clear hb2); (try clear hk); (try clear hi))); try go_wp2_with (first | (go_at_call 10; (with_reducible refine (impl_PairTime.calls kj135 _ _ x56_135 t424 true _ ?side1 ?side2 A166.out).mono ?_); (case side1 => repeat (first | exact (Kd.R_reads' HO_56.out).2.2 | (with_reducible refine Kd.C_alloc ?_ _) | (with_reducible refine Kd.C_drewN ?_ _) | (with_reducible refine Kd.C_drew ?_))); (case side2 => exact (Kd.R_reads' HO_56.out).2.1); rintro e w171 ⟨rfl, hb⟩; have n0_ := Aside0.mk (Kd.R_below (by (with_reducible repeat (first | apply Kd.R_alloc | apply Kd.R_drewN | apply Kd.R_drew)); exact HO_56.out) hb); have n1_ := Aside0.mk (below_step (by repeat (first | (with_reducible first | exact HB.out | apply below_alloc | apply pw_below_drewN | apply below_drew1) | exact HB.out)) hb); clear HO_56; clear HB; have HO_56 := n0_; have HB := n1_; clear n0_ n1_; (try clear hb); (try clear hb2); (try clear hk); (try clear hi))))
      go_loopg [476] kj135 (fun kq v476 w' => ∃ (x476_6 : Int), v476 = .int .i64 x476_6 ∧ Aside0 (laws_FnPairsChangeOfAll.l3 kq a6 x56_135 x56_135 (x56_135.length : Int) x476_6 = some r) ∧ Aside0 (kq ≤ kj135) ∧ Aside0 (Kd.R (Kd.int .i64) 3 w' w.heap.size (fun _ => True) (.slice Ao170 x56_135.length co170) x56_135) ∧ Aside0 (Kd.R (Kd.int .i64) 3 w' w.heap.size (fun _ => True) (.slice Ao170 x56_135.length co170) x56_135) ∧ Aside0 (Below w.heap.size w w'))
      case atStart => exact ⟨(0), (by first | rfl | (simp; done) | (simp [*]; done)), H', ⟨Nat.le_refl _⟩, ⟨by (with_reducible repeat (first | apply Kd.R_alloc | apply Kd.R_drewN | apply Kd.R_drew)); exact HO_56.out⟩, ⟨by (with_reducible repeat (first | apply Kd.R_alloc | apply Kd.R_drewN | apply Kd.R_drew)); exact HO_56.out⟩, ⟨by repeat (first | (with_reducible first | exact HB.out | apply below_alloc | apply pw_below_drewN | apply below_drew1) | exact HB.out)⟩⟩
      case round =>
       clear H'
       try clear c1
       try clear p1
       try clear q1
       try clear hx1
       try clear c2
       try clear p2
       try clear c3
       try clear p3
       try clear q3
       try clear hx3
       try clear c4
       try clear p4
       try clear q4
       try clear hx4
       try clear c5
       try clear p5
       try clear q5
       try clear hx5
       try clear c6
       try clear p6
       try clear c9
       try clear c10
       try clear c10b0
       try clear c10b1
       try clear c11
       try clear c11b0
       try clear c11b1
       try clear c12
       try clear c13
       try clear c14
       try clear c15
       try clear p15
       try clear q15
       try clear hx15
       try clear hf15
       try clear c16
       try clear c17
       try clear c17b0
       try clear c17b1
       try clear c17b2
       try clear c19
       try clear c20
       try clear c20b0
       try clear c20b1
       try clear c20b2
       try clear c21
       try clear c21b0
       try clear c21b1
       try clear c21b2
       try clear c22
       try clear c22b0
       try clear c22b1
       try clear c22b2
       try clear c30
       try clear c31
       try clear c31b0
       try clear c33
       try clear c33b0
       try clear c34
       try clear c34b0
       try clear c35
       try clear c35b0
       try clear p35
       try clear q35
       try clear hx35
       try clear c36
       try clear c36b0
       try clear p36
       try clear q36
       try clear hx36
       try clear c37
       try clear c37b0
       try clear c38
       try clear c38b0
       try clear c39
       try clear c39b0
       try clear c40
       try clear c40b0
       try clear c41
       try clear c41b0
       try clear c41b1
       try clear p41
       try clear q41
       try clear hx41
       try clear c42
       try clear c42b0
       try clear c43
       try clear c43b0
       try clear c45
       try clear c46
       try clear c46b0
       try clear c46b1
       try clear c47
       try clear c47b0
       try clear c47b1
       try clear c50
       try clear c50b0
       try clear c51
       try clear c51b0
       try clear c52
       try clear c52b0
       try clear c53
       try clear c53b0
       try clear c54
       try clear c54b0
       try clear c55
       try clear c55b0
       try clear p56
       try clear q56
       try clear hx56
       try clear hf56
       try clear c63
       try clear c64
       try clear p64
       try clear c65
       try clear c65b0
       try clear c65b1
       try clear c66
       try clear c67
       try clear c68
       try clear c68b0
       try clear c68b1
       try clear c95
       try clear c95b0
       try clear c95b1
       try clear c95b2
       try clear c96
       try clear c96b0
       try clear c96b1
       try clear c97
       try clear c97b0
       try clear c97b1
       try clear c97b2
       try clear c98
       try clear c98b0
       try clear c98b1
       try clear c99
       try clear c99b0
       try clear c99b1
       try clear c99b2
       try clear c100
       try clear c100b0
       try clear c100b1
       try clear c100b2
       try clear c101
       try clear c101b0
       try clear c101b1
       try clear c101b2
       try clear c102
       try clear c102b0
       try clear c102b1
       try clear c103
       try clear c103b0
       try clear c103b1
       try clear c103b2
       try clear c105
       try clear c106
       try clear c107
       try clear c107b0
       try clear c107b1
       try clear c107b2
       try clear c108
       try clear c113
       try clear c113b0
       try clear c113b1
       try clear c113b2
       try clear c114
       try clear c119
       try clear c121
       try clear c123
       try clear c124
       try clear c126
       try clear c127
       try clear c128
       try clear c128b0
       try clear c128b1
       try clear c137
       try clear c139
       try clear c139b0
       try clear c140
       try clear c140b0
       try clear c141
       try clear c141b0
       try clear c142
       try clear c142b0
       try clear c142b1
       try clear c143
       try clear c143b0
       try clear c143b1
       try clear c144
       try clear c145
       try clear c146
       try clear c147
       try clear c148
       try clear c149
       try clear c150
       try clear c150b0
       try clear c151
       try clear c151b0
       try clear p152
       try clear q152
       try clear hx152
       try clear hf152
       try clear c155
       try clear c156
       try clear c157
       try clear c157b0
       try clear c157b1
       try clear c165
       try clear c167
       try clear c168
       try clear c168b0
       try clear c168b1
       try clear c169
       try clear c169b0
       try clear c169b1
       try clear hx152_0
       try clear hx353_0
       try clear hx354_0
       try clear hx355_0
       try clear hx356_0
       try clear hx357_0
       try clear hx358_0
       try clear hx363_0
       try clear hx364_0
       try clear hx412_0
       try clear hx56_0
       try clear p1
       try clear p15
       try clear p152
       try clear p2
       try clear p3
       try clear p35
       try clear p353
       try clear p354
       try clear p355
       try clear p356
       try clear p357
       try clear p358
       try clear p36
       try clear p363
       try clear p364
       try clear p4
       try clear p41
       try clear p412
       try clear p5
       try clear p56
       try clear p6
       try clear p64
       try clear q1
       try clear q15
       try clear q152
       try clear q3
       try clear q35
       try clear q353
       try clear q354
       try clear q355
       try clear q356
       try clear q357
       try clear q358
       try clear q36
       try clear q363
       try clear q364
       try clear q4
       try clear q41
       try clear q412
       try clear q5
       try clear q56
       obtain ⟨x476_6, rfl, HA, HK6, HO_56, HO_474, HB⟩ := hrel
       cases gk with
       | zero => exact absurd HA.out (by simp [laws_FnPairsChangeOfAll.l3])
       | succ k6 =>
        have H := HA.out
        clear HA
        simp only [laws_FnPairsChangeOfAll.l3] at H
        by_cases c172 : x476_6 < (x56_135.length : Int)
        ·rw [if_pos c172] at H
         have c172b0 : decide (x476_6 < (x56_135.length : Int)) = true := decide_eq_true c172
         clear c172
         by_cases c173 : 0 ≤ x476_6
         ·rw [if_pos c173] at H
          have c173b0 : decide (0 ≤ x476_6) = true := decide_eq_true c173
          clear c173
          by_cases c174 : x476_6 < (x56_135.length : Int)
          ·rw [if_pos c174] at H
           have c174b0 : decide (x476_6 < (x56_135.length : Int)) = true := decide_eq_true c174
           clear c174
           by_cases c175 : (rd x56_135 x476_6) < 1
           ·rw [if_pos c175] at H
            exact absurd H (by simp)
           ·rw [if_neg c175] at H
            have c175b0 : decide ((rd x56_135 x476_6) < 1) = false := decide_eq_false c175
            clear c175
            by_cases c176 : (rd x56_135 x476_6) > a6
            ·rw [if_pos c176] at H
             exact absurd H (by simp)
            ·rw [if_neg c176] at H
             have c176b0 : decide (a6 < (rd x56_135 x476_6)) = false := decide_eq_false c176
             clear c176
             by_cases c177 : x476_6 > 0
             ·rw [if_pos c177] at H
              have c177b0 : decide (0 < x476_6) = true := decide_eq_true c177
              clear c177
              obtain ⟨ji178, hji178⟩ : ∃ j_ : Int, (wrap64 (x476_6 - 1)) = j_ := ⟨_, rfl⟩
              replace H : (if 0 ≤ (ji178) then (if (ji178) < (x56_135.length : Int) then (if (rd x56_135 (ji178)) > (rd x56_135 x476_6) then (none) else (laws_FnPairsChangeOfAll.l3 k6 a6 x56_135 x56_135 (x56_135.length : Int) (wrap64 (x476_6 + 1)))) else (none)) else (none)) = some r := by first | (rw [hji178] at H; exact H) | (simp only [hji178] at H ⊢; exact H)
              have hji178w : (IntKind.i64.wrap (x476_6 - 1)) = ji178 := (i64_w _).trans hji178
              by_cases c179 : 0 ≤ (ji178)
              ·rw [if_pos c179] at H
               have c179b0 : decide (0 ≤ (ji178)) = true := decide_eq_true c179
               clear c179
               by_cases c180 : (ji178) < (x56_135.length : Int)
               ·rw [if_pos c180] at H
                have c180b0 : decide ((ji178) < (x56_135.length : Int)) = true := decide_eq_true c180
                clear c180
                by_cases c181 : (rd x56_135 (ji178)) > (rd x56_135 x476_6)
                ·rw [if_pos c181] at H
                 exact absurd H (by simp)
                ·rw [if_neg c181] at H
                 have c181b0 : decide ((rd x56_135 x476_6) < (rd x56_135 (ji178))) = false := decide_eq_false c181
                 clear c181
                 have H' := Aside0.mk H
                 clear H
                 have p426 : 0 ≤ (x476_6 : Int) := of_decide_eq_true (by first | (with_reducible assumption) | assumption)
                 have q426 : x476_6 < (x56_135.length : Int) := of_decide_eq_true (by first | (with_reducible assumption) | assumption)
                 obtain ⟨ad426, e426, hx426_0⟩ := Kd.at_int (Kd.R_reads' HO_474.out).2.2 x476_6 p426 q426
                 cases e426
                 replace p426 := eq_true p426
                 replace q426 := eq_true q426
                 have p427 : 0 ≤ ((ji178) : Int) := of_decide_eq_true (by first | (with_reducible assumption) | assumption)
                 have q427 : (ji178) < (x56_135.length : Int) := of_decide_eq_true (by first | (with_reducible assumption) | assumption)
                 obtain ⟨ad427, e427, hx427_0⟩ := Kd.at_int (Kd.R_reads' HO_56.out).2.2 (ji178) p427 q427
                 obtain rfl : ad426 = ad427 := (by injection e427)
                 replace p427 := eq_true p427
                 replace q427 := eq_true q427
                 go_wp2
                 repeat (go_quiet (fail); try go_wp2)
                 go_roundg k6
                 case measure => have := HJ8.out; have := HJ22.out; have := HJ83.out; have := HJ119.out; have := HJ135.out; have := HK6.out; omega
                 case rel => exact ⟨(wrap64 (x476_6 + 1)), (by first | rfl | (simp; done) | (simp [*]; done)), H', ⟨by have := HJ8.out; have := HJ22.out; have := HJ83.out; have := HJ119.out; have := HJ135.out; have := HK6.out; omega⟩, ⟨by (with_reducible repeat (first | apply Kd.R_alloc | apply Kd.R_drewN | apply Kd.R_drew)); exact HO_56.out⟩, ⟨by (with_reducible repeat (first | apply Kd.R_alloc | apply Kd.R_drewN | apply Kd.R_drew)); exact HO_474.out⟩, ⟨by repeat (first | (with_reducible first | exact HB.out | apply below_alloc | apply pw_below_drewN | apply below_drew1) | exact HB.out)⟩⟩
               ·rw [if_neg c180] at H
                exact absurd H (by simp)
              ·rw [if_neg c179] at H
               exact absurd H (by simp)
             ·rw [if_neg c177] at H
              have c177b0 : decide (0 < x476_6) = false := decide_eq_false c177
              clear c177
              have H' := Aside0.mk H
              clear H
              have p426 : 0 ≤ (x476_6 : Int) := of_decide_eq_true (by first | (with_reducible assumption) | assumption)
              have q426 : x476_6 < (x56_135.length : Int) := of_decide_eq_true (by first | (with_reducible assumption) | assumption)
              obtain ⟨ad426, e426, hx426_0⟩ := Kd.at_int (Kd.R_reads' HO_474.out).2.2 x476_6 p426 q426
              cases e426
              replace p426 := eq_true p426
              replace q426 := eq_true q426
              go_wp2
              repeat (go_quiet (fail); try go_wp2)
              go_roundg k6
              case measure => have := HJ8.out; have := HJ22.out; have := HJ83.out; have := HJ119.out; have := HJ135.out; have := HK6.out; omega
              case rel => exact ⟨(wrap64 (x476_6 + 1)), (by first | rfl | (simp; done) | (simp [*]; done)), H', ⟨by have := HJ8.out; have := HJ22.out; have := HJ83.out; have := HJ119.out; have := HJ135.out; have := HK6.out; omega⟩, ⟨by (with_reducible repeat (first | apply Kd.R_alloc | apply Kd.R_drewN | apply Kd.R_drew)); exact HO_56.out⟩, ⟨by (with_reducible repeat (first | apply Kd.R_alloc | apply Kd.R_drewN | apply Kd.R_drew)); exact HO_474.out⟩, ⟨by repeat (first | (with_reducible first | exact HB.out | apply below_alloc | apply pw_below_drewN | apply below_drew1) | exact HB.out)⟩⟩
          ·rw [if_neg c174] at H
           exact absurd H (by simp)
         ·rw [if_neg c173] at H
          exact absurd H (by simp)
        ·rw [if_neg c172] at H
         have c172b0 : decide (x476_6 < (x56_135.length : Int)) = false := decide_eq_false c172
         clear c172
         obtain rfl := Option.some.inj H
         go_wp2
         repeat (go_quiet (fail); try go_wp2)
         go_ret
         exact ⟨by first | rfl | (simp [errW_none, errW_some] <;> rfl) | (simp [*, errW_none, errW_some] <;> rfl), by repeat (first | (with_reducible first | exact HB.out | apply below_alloc | apply pw_below_drewN | apply below_drew1) | exact HB.out)⟩
     ·rw [if_neg c169] at H
      exact absurd H (by simp)
    ·rw [if_neg c168] at H
     exact absurd H (by simp)
   ·replace c167 := Bool.eq_false_iff.mpr c167
    subst c167
    have H1 : (none) = some r := by rw [if_neg (show ¬ (false = true) by decide)] at H; exact H
    clear H
    have H := H1
    clear H1
    exact absurd H (by simp)
  ·replace c165 := Bool.eq_false_iff.mpr c165
   subst c165
   have H1 : (some true) = some r := by rw [if_neg (show ¬ (false = true) by decide)] at H; exact H
   clear H
   have H := H1
   clear H1
   obtain rfl := Option.some.inj H
   go_wp2
   repeat (go_quiet (fail); try go_wp2)
   go_ret
   exact ⟨by first | rfl | (simp [errW_none, errW_some] <;> rfl) | (simp [*, errW_none, errW_some] <;> rfl), by repeat (first | (with_reducible first | exact HB.out | apply below_alloc | apply pw_below_drewN | apply below_drew1) | exact HB.out)⟩
set_option maxHeartbeats 8000000 in
set_option maxRecDepth 100000 in
theorem laws_FnPairsChangeOfAll.rest6 (k : Nat) (A0 : Option Addr) (c0 : Nat) (l0 : List Int) (A1 : Option Addr) (c1 : Nat) (l1 : List Int) (a2 : Int) (A3 : Option Addr) (c3 : Nat) (l3 : List Int) (a4 a5 a6 a7 : Int) (r : Bool) (w : World) (HR0 : Aside0 (Kd.C (Kd.int .i64) w A0 l0.length l0)) (HC0 : Aside0 (l0.length ≤ c0)) (HR1 : Aside0 (Kd.C (Kd.int .i64) w A1 l1.length l1)) (HC1 : Aside0 (l1.length ≤ c1)) (HR3 : Aside0 (Kd.C (Kd.int .i64) w A3 l3.length l3)) (HC3 : Aside0 (l3.length ≤ c3)) (kj8 kj22 kj83 : Nat) (HJ8 : Aside0 (kj8 + 1 ≤ k)) (HJ22 : Aside0 (kj22 + 1 ≤ kj8)) (HJ83 : Aside0 (kj83 + 1 ≤ kj22)) (t378 : Int) (t379 t382 t383 : Bool) (t390 : List Int) (t391 : Bool) (v392 : Value) (wc : World) (a' : Act) (hinv : laws_FnPairsChangeOfAll.C6 k A0 c0 l0 A1 c1 l1 a2 A3 c3 l3 a4 a5 a6 a7 r w kj83 t378 t379 t382 t383 t390 t391 v392 a' wc) :
    Code.wp Try.prog (cutNx 20 (Try.f3.body.getD .skip)) (bodyPost Try.prog Try.f3 fun e w' => e = .returned (.bool r) ∧ Below w.heap.size w w') a' wc := by
 obtain ⟨uu, rfl, p0, p1, p2, p3, p4, p5, p6, p7, p44, p45, p48, p49, p56, p57, hcut⟩ := hinv
 rw [cutLit, p0, p1, p2, p3, p4, p5, p6, p7, p44, p45, p48, p49, p56, p57]
 clear p0 p1 p2 p3 p4 p5 p6 p7 p44 p45 p48 p49 p56 p57
 conv => enter [2]; whnf
 obtain ⟨kq, HA, HJ119, HO_56, HB⟩ := hcut
 cases kq with
 | zero => exact absurd HA.out (by simp [laws_FnPairsChangeOfAll.j6])
 | succ kj119 =>
  have H := HA.out
  clear HA
  simp only [laws_FnPairsChangeOfAll.j6] at H
  have HC136 := Aside0.mk H
  clear H
  go_upto_if 402 with (fail)
  repeat (go_quiet (fail); go_upto_if 402 with (fail))
  refine wp_cut (laws_FnPairsChangeOfAll.C8 k A0 c0 l0 A1 c1 l1 a2 A3 c3 l3 a4 a5 a6 a7 r w kj119 t391 v392) ?rest ?first
  case first =>
   intro J K' hJ hK'
   have H := HC136.out
   clear HC136
   by_cases c137 : t379 = true
   ·subst c137
    have H1 : (if t378 < 0 then (none) else (if 0 ≤ a4 then (if a4 < (l3.length : Int) then (if (rd l3 a4) = 1 then (if t378 = 0 then (if t383 = true then (if t382 = true then (laws_FnPairsChangeOfAll.j7 kj119 l3 a4 a5 a6 a7 t378 t390 t391 (decide (t378 < 1))) else (laws_FnPairsChangeOfAll.j7 kj119 l3 a4 a5 a6 a7 t378 t390 t391 false)) else (laws_FnPairsChangeOfAll.j7 kj119 l3 a4 a5 a6 a7 t378 t390 t391 false)) else (none)) else (if t383 = true then (if t382 = true then (laws_FnPairsChangeOfAll.j7 kj119 l3 a4 a5 a6 a7 t378 t390 t391 (decide (t378 < 1))) else (laws_FnPairsChangeOfAll.j7 kj119 l3 a4 a5 a6 a7 t378 t390 t391 false)) else (laws_FnPairsChangeOfAll.j7 kj119 l3 a4 a5 a6 a7 t378 t390 t391 false))) else (none)) else (none))) = some r := by rw [if_pos rfl] at H; exact H
    clear H
    have H := H1
    clear H1
    have HC138 := Aside0.mk H
    clear H
    go_upto_region 52 with (fail)
    repeat (go_quiet (fail); go_upto_region 52 with (fail))
    refine wp_cut (laws_FnPairsChangeOfAll.C7 k A0 c0 l0 A1 c1 l1 a2 A3 c3 l3 a4 a5 a6 a7 r w kj119 t378 t390 t391 v392) ?rest2 ?first2
    case first2 =>
     intro J2 K2 hJ2 hK2
     have H := HC138.out
     clear HC138
     by_cases c139 : t378 < 0
     ·rw [if_pos c139] at H
      exact absurd H (by simp)
     ·rw [if_neg c139] at H
      have c139b0 : decide (t378 < 0) = false := decide_eq_false c139
      clear c139
      (first | rw [c139b0] | (simp only [i64_w, i32_w]; rw [c139b0]) | skip)
      by_cases c140 : 0 ≤ a4
      ·rw [if_pos c140] at H
       have c140b0 : decide (0 ≤ a4) = true := decide_eq_true c140
       clear c140
       by_cases c141 : a4 < (l3.length : Int)
       ·rw [if_pos c141] at H
        have c141b0 : decide (a4 < (l3.length : Int)) = true := decide_eq_true c141
        clear c141
        by_cases c142 : (rd l3 a4) = 1
        ·rw [if_pos c142] at H
         have c142b0 : ((rd l3 a4) == 1) = true := beq_iff_eq.mpr c142
         have c142b1 : ((rd l3 a4) != 1) = false := bne_eq_false_iff_eq.mpr c142
         clear c142
         by_cases c143 : t378 = 0
         ·rw [if_pos c143] at H
          have c143b0 : (t378 == 0) = true := beq_iff_eq.mpr c143
          have c143b1 : (t378 != 0) = false := bne_eq_false_iff_eq.mpr c143
          clear c143
          by_cases c144 : t383 = true
          ·subst c144
           have H1 : (if t382 = true then (laws_FnPairsChangeOfAll.j7 kj119 l3 a4 a5 a6 a7 t378 t390 t391 (decide (t378 < 1))) else (laws_FnPairsChangeOfAll.j7 kj119 l3 a4 a5 a6 a7 t378 t390 t391 false)) = some r := by rw [if_pos rfl] at H; exact H
           clear H
           have H := H1
           clear H1
           by_cases c145 : t382 = true
           ·subst c145
            have H1 : (laws_FnPairsChangeOfAll.j7 kj119 l3 a4 a5 a6 a7 t378 t390 t391 (decide (t378 < 1))) = some r := by rw [if_pos rfl] at H; exact H
            clear H
            have H := H1
            clear H1
            have H' := Aside0.mk H
            clear H
            have p412 : 0 ≤ (a4 : Int) := of_decide_eq_true (by first | (with_reducible assumption) | assumption)
            have q412 : a4 < (l3.length : Int) := of_decide_eq_true (by first | (with_reducible assumption) | assumption)
            obtain ⟨ad412, e412, hx412_0⟩ := Kd.at_int HR3.out a4 p412 q412
            cases e412
            replace hx412_0 := (HB.out.cell (World.block_lt_of_cell? w _ hx412_0)).trans hx412_0
            replace p412 := eq_true p412
            replace q412 := eq_true q412
            go_wp2
            repeat (go_quiet (fail); try go_wp2)
            refine Met.intro ?_
            go_step
            refine laws_FnPairsChangeOfAll.C7.meet _ _ _ _ _ _ _ _ _ _ _ _ _ _ _ _ _ _ _ _ _ _ rfl rfl rfl rfl rfl rfl rfl rfl rfl rfl rfl rfl rfl ?_
            exact ⟨_, (decide (t378 < 1)), (by first | rfl | (simp; done) | (simp [*]; done)), H', ⟨by have := HJ8.out; have := HJ22.out; have := HJ83.out; have := HJ119.out; first | omega | exact Nat.le_refl _⟩, ⟨by (with_reducible repeat (first | apply Kd.R_alloc | apply Kd.R_drewN | apply Kd.R_drew)); exact HO_56.out⟩, ⟨by repeat (first | (with_reducible first | exact HB.out | apply below_alloc | apply pw_below_drewN | apply below_drew1) | exact HB.out)⟩⟩
           ·replace c145 := Bool.eq_false_iff.mpr c145
            subst c145
            have H1 : (laws_FnPairsChangeOfAll.j7 kj119 l3 a4 a5 a6 a7 t378 t390 t391 false) = some r := by rw [if_neg (show ¬ (false = true) by decide)] at H; exact H
            clear H
            have H := H1
            clear H1
            have H' := Aside0.mk H
            clear H
            have p412 : 0 ≤ (a4 : Int) := of_decide_eq_true (by first | (with_reducible assumption) | assumption)
            have q412 : a4 < (l3.length : Int) := of_decide_eq_true (by first | (with_reducible assumption) | assumption)
            obtain ⟨ad412, e412, hx412_0⟩ := Kd.at_int HR3.out a4 p412 q412
            cases e412
            replace hx412_0 := (HB.out.cell (World.block_lt_of_cell? w _ hx412_0)).trans hx412_0
            replace p412 := eq_true p412
            replace q412 := eq_true q412
            go_wp2
            repeat (go_quiet (fail); try go_wp2)
            refine Met.intro ?_
            go_step
            refine laws_FnPairsChangeOfAll.C7.meet _ _ _ _ _ _ _ _ _ _ _ _ _ _ _ _ _ _ _ _ _ _ rfl rfl rfl rfl rfl rfl rfl rfl rfl rfl rfl rfl rfl ?_
            exact ⟨_, (false), (by first | rfl | (simp; done) | (simp [*]; done)), H', ⟨by have := HJ8.out; have := HJ22.out; have := HJ83.out; have := HJ119.out; first | omega | exact Nat.le_refl _⟩, ⟨by (with_reducible repeat (first | apply Kd.R_alloc | apply Kd.R_drewN | apply Kd.R_drew)); exact HO_56.out⟩, ⟨by repeat (first | (with_reducible first | exact HB.out | apply below_alloc | apply pw_below_drewN | apply below_drew1) | exact HB.out)⟩⟩
          ·replace c144 := Bool.eq_false_iff.mpr c144
           subst c144
           have H1 : (laws_FnPairsChangeOfAll.j7 kj119 l3 a4 a5 a6 a7 t378 t390 t391 false) = some r := by rw [if_neg (show ¬ (false = true) by decide)] at H; exact H
           clear H
           have H := H1
           clear H1
           have H' := Aside0.mk H
           clear H
           have p412 : 0 ≤ (a4 : Int) := of_decide_eq_true (by first | (with_reducible assumption) | assumption)
           have q412 : a4 < (l3.length : Int) := of_decide_eq_true (by first | (with_reducible assumption) | assumption)
           obtain ⟨ad412, e412, hx412_0⟩ := Kd.at_int HR3.out a4 p412 q412
           cases e412
           replace hx412_0 := (HB.out.cell (World.block_lt_of_cell? w _ hx412_0)).trans hx412_0
           replace p412 := eq_true p412
           replace q412 := eq_true q412
           go_wp2
           repeat (go_quiet (fail); try go_wp2)
           refine Met.intro ?_
           go_step
           refine laws_FnPairsChangeOfAll.C7.meet _ _ _ _ _ _ _ _ _ _ _ _ _ _ _ _ _ _ _ _ _ _ rfl rfl rfl rfl rfl rfl rfl rfl rfl rfl rfl rfl rfl ?_
           exact ⟨_, (false), (by first | rfl | (simp; done) | (simp [*]; done)), H', ⟨by have := HJ8.out; have := HJ22.out; have := HJ83.out; have := HJ119.out; first | omega | exact Nat.le_refl _⟩, ⟨by (with_reducible repeat (first | apply Kd.R_alloc | apply Kd.R_drewN | apply Kd.R_drew)); exact HO_56.out⟩, ⟨by repeat (first | (with_reducible first | exact HB.out | apply below_alloc | apply pw_below_drewN | apply below_drew1) | exact HB.out)⟩⟩
         ·rw [if_neg c143] at H
          exact absurd H (by simp)
        ·rw [if_neg c142] at H
         have c142b0 : ((rd l3 a4) == 1) = false := beq_eq_false_iff_ne.mpr c142
         have c142b1 : ((rd l3 a4) != 1) = true := bne_iff_ne.mpr c142
         by_cases c146 : t383 = true
         ·subst c146
          have H1 : (if t382 = true then (laws_FnPairsChangeOfAll.j7 kj119 l3 a4 a5 a6 a7 t378 t390 t391 (decide (t378 < 1))) else (laws_FnPairsChangeOfAll.j7 kj119 l3 a4 a5 a6 a7 t378 t390 t391 false)) = some r := by rw [if_pos rfl] at H; exact H
          clear H
          have H := H1
          clear H1
          by_cases c147 : t382 = true
          ·subst c147
           have H1 : (laws_FnPairsChangeOfAll.j7 kj119 l3 a4 a5 a6 a7 t378 t390 t391 (decide (t378 < 1))) = some r := by rw [if_pos rfl] at H; exact H
           clear H
           have H := H1
           clear H1
           have H' := Aside0.mk H
           clear H
           have p412 : 0 ≤ (a4 : Int) := of_decide_eq_true (by first | (with_reducible assumption) | assumption)
           have q412 : a4 < (l3.length : Int) := of_decide_eq_true (by first | (with_reducible assumption) | assumption)
           obtain ⟨ad412, e412, hx412_0⟩ := Kd.at_int HR3.out a4 p412 q412
           cases e412
           replace hx412_0 := (HB.out.cell (World.block_lt_of_cell? w _ hx412_0)).trans hx412_0
           replace p412 := eq_true p412
           replace q412 := eq_true q412
           go_wp2
           repeat (go_quiet (fail); try go_wp2)
           refine Met.intro ?_
           go_step
           refine laws_FnPairsChangeOfAll.C7.meet _ _ _ _ _ _ _ _ _ _ _ _ _ _ _ _ _ _ _ _ _ _ rfl rfl rfl rfl rfl rfl rfl rfl rfl rfl rfl rfl rfl ?_
           exact ⟨_, (decide (t378 < 1)), (by first | rfl | (simp; done) | (simp [*]; done)), H', ⟨by have := HJ8.out; have := HJ22.out; have := HJ83.out; have := HJ119.out; first | omega | exact Nat.le_refl _⟩, ⟨by (with_reducible repeat (first | apply Kd.R_alloc | apply Kd.R_drewN | apply Kd.R_drew)); exact HO_56.out⟩, ⟨by repeat (first | (with_reducible first | exact HB.out | apply below_alloc | apply pw_below_drewN | apply below_drew1) | exact HB.out)⟩⟩
          ·replace c147 := Bool.eq_false_iff.mpr c147
           subst c147
           have H1 : (laws_FnPairsChangeOfAll.j7 kj119 l3 a4 a5 a6 a7 t378 t390 t391 false) = some r := by rw [if_neg (show ¬ (false = true) by decide)] at H; exact H
           clear H
           have H := H1
           clear H1
           have H' := Aside0.mk H
           clear H
           have p412 : 0 ≤ (a4 : Int) := of_decide_eq_true (by first | (with_reducible assumption) | assumption)
           have q412 : a4 < (l3.length : Int) := of_decide_eq_true (by first | (with_reducible assumption) | assumption)
           obtain ⟨ad412, e412, hx412_0⟩ := Kd.at_int HR3.out a4 p412 q412
           cases e412
           replace hx412_0 := (HB.out.cell (World.block_lt_of_cell? w _ hx412_0)).trans hx412_0
           replace p412 := eq_true p412
           replace q412 := eq_true q412
           go_wp2
           repeat (go_quiet (fail); try go_wp2)
           refine Met.intro ?_
           go_step
           refine laws_FnPairsChangeOfAll.C7.meet _ _ _ _ _ _ _ _ _ _ _ _ _ _ _ _ _ _ _ _ _ _ rfl rfl rfl rfl rfl rfl rfl rfl rfl rfl rfl rfl rfl ?_
           exact ⟨_, (false), (by first | rfl | (simp; done) | (simp [*]; done)), H', ⟨by have := HJ8.out; have := HJ22.out; have := HJ83.out; have := HJ119.out; first | omega | exact Nat.le_refl _⟩, ⟨by (with_reducible repeat (first | apply Kd.R_alloc | apply Kd.R_drewN | apply Kd.R_drew)); exact HO_56.out⟩, ⟨by repeat (first | (with_reducible first | exact HB.out | apply below_alloc | apply pw_below_drewN | apply below_drew1) | exact HB.out)⟩⟩
         ·replace c146 := Bool.eq_false_iff.mpr c146
          subst c146
          have H1 : (laws_FnPairsChangeOfAll.j7 kj119 l3 a4 a5 a6 a7 t378 t390 t391 false) = some r := by rw [if_neg (show ¬ (false = true) by decide)] at H; exact H
          clear H
          have H := H1
          clear H1
          have H' := Aside0.mk H
          clear H
          have p412 : 0 ≤ (a4 : Int) := of_decide_eq_true (by first | (with_reducible assumption) | assumption)
          have q412 : a4 < (l3.length : Int) := of_decide_eq_true (by first | (with_reducible assumption) | assumption)
          obtain ⟨ad412, e412, hx412_0⟩ := Kd.at_int HR3.out a4 p412 q412
          cases e412
          replace hx412_0 := (HB.out.cell (World.block_lt_of_cell? w _ hx412_0)).trans hx412_0
          replace p412 := eq_true p412
          replace q412 := eq_true q412
          go_wp2
          repeat (go_quiet (fail); try go_wp2)
          refine Met.intro ?_
          go_step
          refine laws_FnPairsChangeOfAll.C7.meet _ _ _ _ _ _ _ _ _ _ _ _ _ _ _ _ _ _ _ _ _ _ rfl rfl rfl rfl rfl rfl rfl rfl rfl rfl rfl rfl rfl ?_
          exact ⟨_, (false), (by first | rfl | (simp; done) | (simp [*]; done)), H', ⟨by have := HJ8.out; have := HJ22.out; have := HJ83.out; have := HJ119.out; first | omega | exact Nat.le_refl _⟩, ⟨by (with_reducible repeat (first | apply Kd.R_alloc | apply Kd.R_drewN | apply Kd.R_drew)); exact HO_56.out⟩, ⟨by repeat (first | (with_reducible first | exact HB.out | apply below_alloc | apply pw_below_drewN | apply below_drew1) | exact HB.out)⟩⟩
       ·rw [if_neg c141] at H
        exact absurd H (by simp)
      ·rw [if_neg c140] at H
       exact absurd H (by simp)
    case rest2 =>
     intro a' wc hinv
     go_step
     exact laws_FnPairsChangeOfAll.rest7 k A0 c0 l0 A1 c1 l1 a2 A3 c3 l3 a4 a5 a6 a7 r w HR0 HC0 HR1 HC1 HR3 HC3 kj8 kj22 kj83 kj119 HJ8 HJ22 HJ83 HJ119 t378 t390 t391 v392 J K' hJ hK' _ (by assumption) wc a' hinv
   ·replace c137 := Bool.eq_false_iff.mpr c137
    subst c137
    have H1 : (laws_FnPairsChangeOfAll.j8 kj119 a5 a6 a7 t390 t391) = some r := by rw [if_neg (show ¬ (false = true) by decide)] at H; exact H
    clear H
    have H := H1
    clear H1
    have H' := Aside0.mk H
    clear H
    go_wp2
    repeat (go_quiet (fail); try go_wp2)
    refine Met.intro ?_
    go_step
    refine laws_FnPairsChangeOfAll.C8.meet _ _ _ _ _ _ _ _ _ _ _ _ _ _ _ _ _ _ _ _ rfl rfl rfl rfl rfl rfl rfl rfl rfl rfl rfl ?_
    exact ⟨_, (t390), H', ⟨by have := HJ8.out; have := HJ22.out; have := HJ83.out; have := HJ119.out; first | omega | exact Nat.le_refl _⟩, ⟨by (with_reducible repeat (first | apply Kd.R_alloc | apply Kd.R_drewN | apply Kd.R_drew)); exact HO_56.out⟩, ⟨by repeat (first | (with_reducible first | exact HB.out | apply below_alloc | apply pw_below_drewN | apply below_drew1) | exact HB.out)⟩⟩
  case rest =>
   intro a' wc hinv
   go_step
   exact laws_FnPairsChangeOfAll.rest8 k A0 c0 l0 A1 c1 l1 a2 A3 c3 l3 a4 a5 a6 a7 r w HR0 HC0 HR1 HC1 HR3 HC3 kj8 kj22 kj83 kj119 HJ8 HJ22 HJ83 HJ119 t391 v392 wc a' hinv
set_option maxHeartbeats 8000000 in
set_option maxRecDepth 100000 in
theorem laws_FnPairsChangeOfAll.rest5 (k : Nat) (A0 : Option Addr) (c0 : Nat) (l0 : List Int) (A1 : Option Addr) (c1 : Nat) (l1 : List Int) (a2 : Int) (A3 : Option Addr) (c3 : Nat) (l3 : List Int) (a4 a5 a6 a7 : Int) (r : Bool) (w : World) (HR0 : Aside0 (Kd.C (Kd.int .i64) w A0 l0.length l0)) (HC0 : Aside0 (l0.length ≤ c0)) (HR1 : Aside0 (Kd.C (Kd.int .i64) w A1 l1.length l1)) (HC1 : Aside0 (l1.length ≤ c1)) (HR3 : Aside0 (Kd.C (Kd.int .i64) w A3 l3.length l3)) (HC3 : Aside0 (l3.length ≤ c3)) (kj8 kj22 : Nat) (HJ8 : Aside0 (kj8 + 1 ≤ k)) (HJ22 : Aside0 (kj22 + 1 ≤ kj8)) (t374 : Int) (t375 : Bool) (t378 : Int) (t379 t382 t383 : Bool) (t390 : List Int) (t391 : Bool) (v392 : Value) (K1 : Act → World → Prop) (hK1 : ∀ aa ww, Code.wp Try.prog (cutNx 19 (Try.f3.body.getD .skip)) (bodyPost Try.prog Try.f3 fun e w' => e = .returned (.bool r) ∧ Below w.heap.size w w') aa ww → K1 aa ww) (wc : World) (a' : Act) (hinv : laws_FnPairsChangeOfAll.C5 k A0 c0 l0 A1 c1 l1 a2 A3 c3 l3 a4 a5 a6 a7 r w kj22 t374 t375 t378 t379 t382 t383 t390 t391 v392 a' wc) :
    Code.wp Try.prog (cutNx 1 (cutFs (cutNx 18 (Try.f3.body.getD .skip)))) (Exit.then K1 (bodyPost Try.prog Try.f3 fun e w' => e = .returned (.bool r) ∧ Below w.heap.size w w')) a' wc := by
 obtain ⟨uu, rfl, p0, p1, p2, p3, p4, p5, p6, p7, p40, p41, p44, p45, p48, p49, p56, p57, hcut⟩ := hinv
 rw [cutLit, p0, p1, p2, p3, p4, p5, p6, p7, p40, p41, p44, p45, p48, p49, p56, p57]
 clear p0 p1 p2 p3 p4 p5 p6 p7 p40 p41 p44 p45 p48 p49 p56 p57
 conv => enter [2]; whnf
 obtain ⟨kq, x372_83, pl, HA, HJ83, HO_56, HB⟩ := hcut
 rw [pl]
 clear pl
 conv at hK1 => enter [aa, ww, 1, 2]; whnf
 cases kq with
 | zero => exact absurd HA.out (by simp [laws_FnPairsChangeOfAll.j5])
 | succ kj83 =>
  have H := HA.out
  clear HA
  simp only [laws_FnPairsChangeOfAll.j5] at H
  by_cases c119 : x372_83 = true
  ·subst c119
   have H1 : (none) = some r := by rw [if_pos rfl] at H; exact H
   clear H
   have H := H1
   clear H1
   exact absurd H (by simp)
  ·replace c119 := Bool.eq_false_iff.mpr c119
   subst c119
   have H1 : (if t375 = true then ((impl_PairTime.f kj83 l1).bind fun bt399 => ((some (([] : List Int) : List Int)).bind fun y401 => (if y401.length + l1.length < 17592186044416 then ((some (y401 ++ l1 : List Int)).bind fun y404 => (if y404.length < 17592186044416 then ((impl_PairTime.f kj83 (y404 ++ [a2])).bind fun bt410 => (if bt399.2 = true then (if bt410.2 = true then (if (wrap64 (bt410.1 - bt399.1)) = t374 then (laws_FnPairsChangeOfAll.j6 kj83 l3 a4 a5 a6 a7 t378 t379 t382 t383 t390 t391) else (none)) else (none)) else (none))) else (none))) else (none)))) else (laws_FnPairsChangeOfAll.j6 kj83 l3 a4 a5 a6 a7 t378 t379 t382 t383 t390 t391)) = some r := by rw [if_neg (show ¬ (false = true) by decide)] at H; exact H
   clear H
   have H := H1
   clear H1
   have HC120 := Aside0.mk H
   clear H
   go_upto_if 373 with (fail)
   repeat (go_quiet (fail); go_upto_if 373 with (fail))
   refine wp_cut (laws_FnPairsChangeOfAll.C6 k A0 c0 l0 A1 c1 l1 a2 A3 c3 l3 a4 a5 a6 a7 r w kj83 t378 t379 t382 t383 t390 t391 v392) ?rest ?first
   case first =>
    intro J K' hJ hK'
    have H := HC120.out
    clear HC120
    by_cases c121 : t375 = true
    ·subst c121
     have H1 : ((impl_PairTime.f kj83 l1).bind fun bt399 => ((some (([] : List Int) : List Int)).bind fun y401 => (if y401.length + l1.length < 17592186044416 then ((some (y401 ++ l1 : List Int)).bind fun y404 => (if y404.length < 17592186044416 then ((impl_PairTime.f kj83 (y404 ++ [a2])).bind fun bt410 => (if bt399.2 = true then (if bt410.2 = true then (if (wrap64 (bt410.1 - bt399.1)) = t374 then (laws_FnPairsChangeOfAll.j6 kj83 l3 a4 a5 a6 a7 t378 t379 t382 t383 t390 t391) else (none)) else (none)) else (none))) else (none))) else (none)))) = some r := by rw [if_pos rfl] at H; exact H
     clear H
     have H := H1
     clear H1
     replace H := Option.bind_eq_some_iff.mp H
     obtain ⟨⟨t399, t400⟩, A1220, H⟩ := H
     replace H : ((some (([] : List Int) : List Int)).bind fun y401 => (if y401.length + l1.length < 17592186044416 then ((some (y401 ++ l1 : List Int)).bind fun y404 => (if y404.length < 17592186044416 then ((impl_PairTime.f kj83 (y404 ++ [a2])).bind fun bt410 => (if t400 = true then (if bt410.2 = true then (if (wrap64 (bt410.1 - t399)) = t374 then (laws_FnPairsChangeOfAll.j6 kj83 l3 a4 a5 a6 a7 t378 t379 t382 t383 t390 t391) else (none)) else (none)) else (none))) else (none))) else (none))) = some r := H
     have A122 := Aside0.mk A1220
     clear A1220
     obtain ⟨y401, hy401⟩ : ∃ y_ : List Int, y_ = (([] : List Int)) := ⟨_, rfl⟩
     replace H : (if y401.length + l1.length < 17592186044416 then ((some (y401 ++ l1 : List Int)).bind fun y404 => (if y404.length < 17592186044416 then ((impl_PairTime.f kj83 (y404 ++ [a2])).bind fun bt410 => (if t400 = true then (if bt410.2 = true then (if (wrap64 (bt410.1 - t399)) = t374 then (laws_FnPairsChangeOfAll.j6 kj83 l3 a4 a5 a6 a7 t378 t379 t382 t383 t390 t391) else (none)) else (none)) else (none))) else (none))) else (none)) = some r := by first | (rw [hy401]; with_reducible exact H) | (have H2_ := (Option.bind_some _ _).symm.trans H; rw [hy401]; with_reducible exact H2_) | (have H2_ := (Option.bind_some _ _).symm.trans H; with_reducible exact H2_) | with_reducible exact H | (rw [hy401]; exact H) | exact H
     have Ny401 := Aside0.mk hy401
     clear hy401
     by_cases c123 : y401.length + l1.length < 17592186044416
     ·rw [if_pos c123] at H
      have LMc123 := Aside0.mk c123
      clear c123
      obtain ⟨y404, hy404⟩ : ∃ y_ : List Int, y_ = (y401 ++ l1) := ⟨_, rfl⟩
      replace H : (if y404.length < 17592186044416 then ((impl_PairTime.f kj83 (y404 ++ [a2])).bind fun bt410 => (if t400 = true then (if bt410.2 = true then (if (wrap64 (bt410.1 - t399)) = t374 then (laws_FnPairsChangeOfAll.j6 kj83 l3 a4 a5 a6 a7 t378 t379 t382 t383 t390 t391) else (none)) else (none)) else (none))) else (none)) = some r := by first | (rw [hy404]; with_reducible exact H) | (have H2_ := (Option.bind_some _ _).symm.trans H; rw [hy404]; with_reducible exact H2_) | (have H2_ := (Option.bind_some _ _).symm.trans H; with_reducible exact H2_) | with_reducible exact H | (rw [hy404]; exact H) | exact H
      have Ny404 := Aside0.mk hy404
      clear hy404
      by_cases c124 : y404.length < 17592186044416
      ·rw [if_pos c124] at H
       have LMc124 := Aside0.mk c124
       clear c124
       obtain ⟨y407, hy407⟩ : ∃ y_ : List Int, y_ = (y404 ++ [a2]) := ⟨_, rfl⟩
       replace H : ((impl_PairTime.f kj83 y407).bind fun bt410 => (if t400 = true then (if bt410.2 = true then (if (wrap64 (bt410.1 - t399)) = t374 then (laws_FnPairsChangeOfAll.j6 kj83 l3 a4 a5 a6 a7 t378 t379 t382 t383 t390 t391) else (none)) else (none)) else (none))) = some r := by first | (rw [hy407]; with_reducible exact H) | (have H2_ := (Option.bind_some _ _).symm.trans H; rw [hy407]; with_reducible exact H2_) | (have H2_ := (Option.bind_some _ _).symm.trans H; with_reducible exact H2_) | with_reducible exact H | (rw [hy407]; exact H) | exact H
       have Ny407 := Aside0.mk hy407
       clear hy407
       replace H := Option.bind_eq_some_iff.mp H
       obtain ⟨⟨t410, t411⟩, A1250, H⟩ := H
       replace H : (if t400 = true then (if t411 = true then (if (wrap64 (t410 - t399)) = t374 then (laws_FnPairsChangeOfAll.j6 kj83 l3 a4 a5 a6 a7 t378 t379 t382 t383 t390 t391) else (none)) else (none)) else (none)) = some r := H
       have A125 := Aside0.mk A1250
       clear A1250
       by_cases c126 : t400 = true
       ·subst c126
        have H1 : (if t411 = true then (if (wrap64 (t410 - t399)) = t374 then (laws_FnPairsChangeOfAll.j6 kj83 l3 a4 a5 a6 a7 t378 t379 t382 t383 t390 t391) else (none)) else (none)) = some r := by rw [if_pos rfl] at H; exact H
        clear H
        have H := H1
        clear H1
        by_cases c127 : t411 = true
        ·subst c127
         have H1 : (if (wrap64 (t410 - t399)) = t374 then (laws_FnPairsChangeOfAll.j6 kj83 l3 a4 a5 a6 a7 t378 t379 t382 t383 t390 t391) else (none)) = some r := by rw [if_pos rfl] at H; exact H
         clear H
         have H := H1
         clear H1
         by_cases c128 : (wrap64 (t410 - t399)) = t374
         ·rw [if_pos c128] at H
          have c128b0 : ((wrap64 (t410 - t399)) == t374) = true := beq_iff_eq.mpr c128
          have c128b1 : ((wrap64 (t410 - t399)) != t374) = false := bne_eq_false_iff_eq.mpr c128
          clear c128
          (first | rw [c128b0] | (simp only [i64_w, i32_w]; rw [c128b0]) | skip)
          have H' := Aside0.mk H
          clear H
          go_wp2_with (first | (go_at_call 10; (with_reducible refine (impl_PairTime.calls kj83 _ _ l1 t399 true _ ?side1 ?side2 A122.out).mono ?_); (case side1 => repeat (first | exact (Kd.C_below HR1.out HB.out) | (with_reducible refine Kd.C_alloc ?_ _) | (with_reducible refine Kd.C_drewN ?_ _) | (with_reducible refine Kd.C_drew ?_))); (case side2 => exact HC1.out); rintro e w129 ⟨rfl, hb⟩; have n0_ := Aside0.mk (Kd.R_below (by (with_reducible repeat (first | apply Kd.R_alloc | apply Kd.R_drewN | apply Kd.R_drew)); exact HO_56.out) hb); have n1_ := Aside0.mk (below_step (by repeat (first | (with_reducible first | exact HB.out | apply below_alloc | apply pw_below_drewN | apply below_drew1) | exact HB.out)) hb); clear HO_56; clear HB; have HO_56 := n0_; have HB := n1_; clear n0_ n1_; (try clear hb); (try clear hb2); (try clear hk); (try clear hi)) | ((with_reducible refine gate_dst (N := 380) rfl ?_); (try (refine gate_guard (by rfl) ?_; dsimp only)); refine Kd.R_lit (Kd.int .i64) _ 3 ?hg (N := 380) ?hd (xs := ([] : List Int)) (inner := []) (ok := fun _ => True) (okp := fun _ => True) ?hr ?hp (fun _ hk => hk) trivial (Below.refl _ _) (Nat.le_refl _) (by simp) ?_; (case hd => rfl); (case hg => rfl); (case hr => first | (go_simp; done) | (go_simp; rfl)); (case hp => exact (Reps.none _ _)); intro v402 w130 ho131 hb hg_ hnew_; clear hg_ hnew_; (first | rw [← Ny401.out] at ho131 | (simp only [Int.reduceToNat] at ho131; rw [← Ny401.out] at ho131)); have n0_ := Aside0.mk (Kd.R_elder' (by (with_reducible repeat (first | apply Kd.R_alloc | apply Kd.R_drewN | apply Kd.R_drew)); exact HO_56.out) (Kd.R_base ho131) hb); have n1_ := Aside0.mk (Kd.R_lower (Kd.R_new' ho131 (Kd.R_lt (by (with_reducible repeat (first | apply Kd.R_alloc | apply Kd.R_drewN | apply Kd.R_drew)); exact HO_56.out))) (below_size (by repeat (first | (with_reducible first | exact HB.out | apply below_alloc | apply pw_below_drewN | apply below_drew1) | exact HB.out)))); have n2_ := Aside0.mk (below_step (by repeat (first | (with_reducible first | exact HB.out | apply below_alloc | apply pw_below_drewN | apply below_drew1) | exact HB.out)) hb); clear HO_56; clear HB; have HO_56 := n0_; have HO403 := n1_; have HB := n2_; clear n0_ n1_ n2_; clear hb ho131) | ((with_reducible refine gate_builtin (b := .append) (xs := #[.tmp 380, .tmp 381]) rfl ?_); (try (refine gate_guard (by rfl) ?_; dsimp only)); at_builtin; refine Kd.R_append_rows (Kd.int .i64) (w0 := w) w.heap.size rfl (.tmp 380) (.tmp 381) 22 3 (.int .i64 0) 8 rfl Try.underlying22 info3 rfl (by decide) (by omega) v402 y401 l1 _ _ _ (fun k_ => some k_ ≠ (v392 : Value).ownBlock) (fun _ => False) rfl rfl ?aO ?aR (fun _ _ h => h) (fun _ h => h.elim) ?aF ?aB ?aS ?aL ?_; (case aR => repeat (first | exact (Kd.C_below HR1.out HB.out) | (with_reducible refine Kd.C_alloc ?_ _) | (with_reducible refine Kd.C_drewN ?_ _) | (with_reducible refine Kd.C_drew ?_))); (case aB => exact (by repeat (first | (with_reducible first | exact HB.out | apply below_alloc | apply pw_below_drewN | apply below_drew1) | exact HB.out))); (case aF => exact (fun k_ hk => Kd.fresh' (Kd.R_lt (by (with_reducible repeat (first | apply Kd.R_alloc | apply Kd.R_drewN | apply Kd.R_drew)); exact HO_56.out)) k_ hk)); (case aO => exact (by (with_reducible repeat (first | apply Kd.R_alloc | apply Kd.R_drewN | apply Kd.R_drew)); exact Kd.R_mono HO403.out (fun _ hk => hk.2))); (case aS => exact (below_size (by repeat (first | (with_reducible first | exact HB.out | apply below_alloc | apply pw_below_drewN | apply below_drew1) | exact HB.out)))); (case aL => have := LMc123.out; omega); intro v405 w132 ho hb hg hat; rw [← Ny404.out] at ho; have n0_ := Aside0.mk (Kd.R_after (ok := (fun _ => True)) (by (with_reducible repeat (first | apply Kd.R_alloc | apply Kd.R_drewN | apply Kd.R_drew)); exact HO_56.out) hg hat); have n1_ := Aside0.mk (hb); have n2_ := Aside0.mk (ho); clear HO_56; clear HB; clear HO403; have HO_56 := n0_; have HB := n1_; have HO406 := n2_; clear n0_ n1_ n2_; clear ho hb hg hat) | ((with_reducible refine gate_builtin (b := .append) (xs := #[.tmp 382, .tmp 384]) rfl ?_); (try (refine gate_guard (by rfl) ?_; dsimp only)); at_builtin; refine Kd.R_append (Kd.int .i64) (w0 := w) w.heap.size rfl (.tmp 382) (.tmp 384) 22 3 (.int .i64 0) 8 rfl Try.underlying22 info3 rfl (by decide) (by omega) v405 y404 a2 [.int .i64 a2] (fun k_ => some k_ ≠ (v392 : Value).ownBlock) (fun _ => False) rfl rfl ?aP (fun _ hk => hk.elim) ?aF ?aO ?aB ?aS ?aL ?_; (case aP => exact rfl); (case aB => exact (by repeat (first | (with_reducible first | exact HB.out | apply below_alloc | apply pw_below_drewN | apply below_drew1) | exact HB.out))); (case aF => exact (fun k_ hk => Kd.fresh' (Kd.R_lt (by (with_reducible repeat (first | apply Kd.R_alloc | apply Kd.R_drewN | apply Kd.R_drew)); exact HO_56.out)) k_ hk)); (case aO => exact (by (with_reducible repeat (first | apply Kd.R_alloc | apply Kd.R_drewN | apply Kd.R_drew)); exact HO406.out)); (case aS => exact (below_size (by repeat (first | (with_reducible first | exact HB.out | apply below_alloc | apply pw_below_drewN | apply below_drew1) | exact HB.out)))); (case aL => have := LMc124.out; omega); intro v408 w133 ho hb hg hat; rw [← Ny407.out] at ho; have n0_ := Aside0.mk (Kd.R_after (ok := (fun _ => True)) (by (with_reducible repeat (first | apply Kd.R_alloc | apply Kd.R_drewN | apply Kd.R_drew)); exact HO_56.out) hg hat); have n1_ := Aside0.mk (hb); have n2_ := Aside0.mk (ho); clear HO_56; clear HB; clear HO406; have HO_56 := n0_; have HB := n1_; have HO409 := n2_; clear n0_ n1_ n2_; clear ho hb hg hat; obtain ⟨Ao134, co134, eo134⟩ := Kd.R_slice HO409.out; subst eo134) | (go_at_call 10; (with_reducible refine (impl_PairTime.calls kj83 _ _ y407 t410 true _ ?side1 ?side2 A125.out).mono ?_); (case side1 => repeat (first | exact (Kd.R_reads' HO409.out).2.2 | (with_reducible refine Kd.C_alloc ?_ _) | (with_reducible refine Kd.C_drewN ?_ _) | (with_reducible refine Kd.C_drew ?_))); (case side2 => exact (Kd.R_reads' HO409.out).2.1); rintro e w135 ⟨rfl, hb⟩; have n0_ := Aside0.mk (Kd.R_below (by (with_reducible repeat (first | apply Kd.R_alloc | apply Kd.R_drewN | apply Kd.R_drew)); exact HO_56.out) hb); have n1_ := Aside0.mk (Kd.R_below (by (with_reducible repeat (first | apply Kd.R_alloc | apply Kd.R_drewN | apply Kd.R_drew)); exact HO409.out) hb); have n2_ := Aside0.mk (below_step (by repeat (first | (with_reducible first | exact HB.out | apply below_alloc | apply pw_below_drewN | apply below_drew1) | exact HB.out)) hb); clear HO_56; clear HO409; clear HB; have HO_56 := n0_; have HO409 := n1_; have HB := n2_; clear n0_ n1_ n2_; (try clear hb); (try clear hb2); (try clear hk); (try clear hi)))
          repeat (go_quiet (first | (go_at_call 10; (with_reducible refine (impl_PairTime.calls kj83 _ _ l1 t399 true _ ?side1 ?side2 A122.out).mono ?_); (case side1 => repeat (first | exact (Kd.C_below HR1.out HB.out) | (with_reducible refine Kd.C_alloc ?_ _) | (with_reducible refine Kd.C_drewN ?_ _) | (with_reducible refine Kd.C_drew ?_))); (case side2 => exact HC1.out); rintro e w129 ⟨rfl, hb⟩; have n0_ := Aside0.mk (Kd.R_below (by (with_reducible repeat (first | apply Kd.R_alloc | apply Kd.R_drewN | apply Kd.R_drew)); exact HO_56.out) hb); have n1_ := Aside0.mk (below_step (by repeat (first | (with_reducible first | exact HB.out | apply below_alloc | apply pw_below_drewN | apply below_drew1) | exact HB.out)) hb); clear HO_56; clear HB; have HO_56 := n0_; have HB := n1_; clear n0_ n1_; (try clear hb); (try clear hb2); (try clear hk); (try clear hi)) | ((with_reducible refine gate_dst (N := 380) rfl ?_); (try (refine gate_guard (by rfl) ?_; dsimp only)); refine Kd.R_lit (Kd.int .i64) _ 3 ?hg (N := 380) ?hd (xs := ([] : List Int)) (inner := []) (ok := fun _ => True) (okp := fun _ => True) ?hr ?hp (fun _ hk => hk) trivial (Below.refl _ _) (Nat.le_refl _) (by simp) ?_; (case hd => rfl); (case hg => rfl); (case hr => first | (go_simp; done) | (go_simp; rfl)); (case hp => exact (Reps.none _ _)); intro v402 w130 ho131 hb hg_ hnew_; clear hg_ hnew_; (first | rw [← Ny401.out] at ho131 | (simp only [Int.reduceToNat] at ho131; rw [← Ny401.out] at ho131)); have n0_ := Aside0.mk (Kd.R_elder' (by (with_reducible repeat (first | apply Kd.R_alloc | apply Kd.R_drewN | apply Kd.R_drew)); exact HO_56.out) (Kd.R_base ho131) hb); have n1_ := Aside0.mk (Kd.R_lower (Kd.R_new' ho131 (Kd.R_lt (by (with_reducible repeat (first | apply Kd.R_alloc | apply Kd.R_drewN | apply Kd.R_drew)); exact HO_56.out))) (below_size (by repeat (first | (with_reducible first | exact HB.out | apply below_alloc | apply pw_below_drewN | apply below_drew1) | exact HB.out)))); have n2_ := Aside0.mk (below_step (by repeat (first | (with_reducible first | exact HB.out | apply below_alloc | apply pw_below_drewN | apply below_drew1) | exact HB.out)) hb); clear HO_56; clear HB; have HO_56 := n0_; have HO403 := n1_; have HB := n2_; clear n0_ n1_ n2_; clear hb ho131) | ((with_reducible refine gate_builtin (b := .append) (xs := #[.tmp 380, .tmp 381]) rfl ?_); (try (refine gate_guard (by rfl) ?_; dsimp only)); at_builtin; refine Kd.R_append_rows (Kd.int .i64) (w0 := w) w.heap.size rfl (.tmp 380) (.tmp 381) 22 3 (.int .i64 0) 8 rfl Try.underlying22 info3 rfl (by decide) (by omega) v402 y401 l1 _ _ _ (fun k_ => some k_ ≠ (v392 : Value).ownBlock) (fun _ => False) rfl rfl ?aO ?aR (fun _ _ h => h) (fun _ h => h.elim) ?aF ?aB ?aS ?aL ?_; (case aR => repeat (first | exact (Kd.C_below HR1.out HB.out) | (with_reducible refine Kd.C_alloc ?_ _) | (with_reducible refine Kd.C_drewN ?_ _) | (with_reducible refine Kd.C_drew ?_))); (case aB => exact (by repeat (first | (with_reducible first | exact HB.out | apply below_alloc | apply pw_below_drewN | apply below_drew1) | exact HB.out))); (case aF => exact (fun k_ hk => Kd.fresh' (Kd.R_lt (by (with_reducible repeat (first | apply Kd.R_alloc | apply Kd.R_drewN | apply Kd.R_drew)); exact HO_56.out)) k_ hk)); (case aO => exact (by (with_reducible repeat (first | apply Kd.R_alloc | apply Kd.R_drewN | apply Kd.R_drew)); exact Kd.R_mono HO403.out (fun _ hk => hk.2))); (case aS => exact (below_size (by repeat (first | (with_reducible first | exact HB.out | apply below_alloc | apply pw_below_drewN | apply below_drew1) | exact HB.out)))); (case aL => have := LMc123.out; omega); intro v405 w132 ho hb hg hat; rw [← Ny404.out] at ho; have n0_ := Aside0.mk (Kd.R_after (ok := (fun _ => True)) (by (with_reducible repeat (first | apply Kd.R_alloc | apply Kd.R_drewN | apply Kd.R_drew)); exact HO_56.out) hg hat); have n1_ := Aside0.mk (hb); have n2_ := Aside0.mk (ho); clear HO_56; clear HB; clear HO403; have HO_56 := n0_; have HB := n1_; have HO406 := n2_; clear n0_ n1_ n2_; clear ho hb hg hat) | ((with_reducible refine gate_builtin (b := .append) (xs := #[.tmp 382, .tmp 384]) rfl ?_); (try (refine gate_guard (by rfl) ?_; dsimp only)); at_builtin; refine Kd.R_append (Kd.int .i64) (w0 := w) w.heap.size rfl (.tmp 382) (.tmp 384) 22 3 (.int .i64 0) 8 rfl Try.underlying22 info3 rfl (by decide) (by omega) v405 y404 a2 [.int .i64 a2] (fun k_ => some k_ ≠ (v392 : Value).ownBlock) (fun _ => False) rfl rfl ?aP (fun _ hk => hk.elim) ?aF ?aO ?aB ?aS ?aL ?_; (case aP => exact rfl); (case aB => exact (by repeat (first | (with_reducible first | exact HB.out | apply below_alloc | apply pw_below_drewN | apply below_drew1) | exact HB.out))); (case aF => exact (fun k_ hk => Kd.fresh' (Kd.R_lt (by (with_reducible repeat (first | apply Kd.R_alloc | apply Kd.R_drewN | apply Kd.R_drew)); exact HO_56.out)) k_ hk)); (case aO => exact (by (with_reducible repeat (first | apply Kd.R_alloc | apply Kd.R_drewN | apply Kd.R_drew)); exact HO406.out)); (case aS => exact (below_size (by repeat (first | (with_reducible first | exact HB.out | apply below_alloc | apply pw_below_drewN | apply below_drew1) | exact HB.out)))); (case aL => have := LMc124.out; omega); intro v408 w133 ho hb hg hat; rw [← Ny407.out] at ho; have n0_ := Aside0.mk (Kd.R_after (ok := (fun _ => True)) (by (with_reducible repeat (first | apply Kd.R_alloc | apply Kd.R_drewN | apply Kd.R_drew)); exact HO_56.out) hg hat); have n1_ := Aside0.mk (hb); have n2_ := Aside0.mk (ho); clear HO_56; clear HB; clear HO406; have HO_56 := n0_; have HB := n1_; have HO409 := n2_; clear n0_ n1_ n2_; clear ho hb hg hat; obtain ⟨Ao134, co134, eo134⟩ := Kd.R_slice HO409.out; subst eo134) | (go_at_call 10; (with_reducible refine (impl_PairTime.calls kj83 _ _ y407 t410 true _ ?side1 ?side2 A125.out).mono ?_); (case side1 => repeat (first | exact (Kd.R_reads' HO409.out).2.2 | (with_reducible refine Kd.C_alloc ?_ _) | (with_reducible refine Kd.C_drewN ?_ _) | (with_reducible refine Kd.C_drew ?_))); (case side2 => exact (Kd.R_reads' HO409.out).2.1); rintro e w135 ⟨rfl, hb⟩; have n0_ := Aside0.mk (Kd.R_below (by (with_reducible repeat (first | apply Kd.R_alloc | apply Kd.R_drewN | apply Kd.R_drew)); exact HO_56.out) hb); have n1_ := Aside0.mk (Kd.R_below (by (with_reducible repeat (first | apply Kd.R_alloc | apply Kd.R_drewN | apply Kd.R_drew)); exact HO409.out) hb); have n2_ := Aside0.mk (below_step (by repeat (first | (with_reducible first | exact HB.out | apply below_alloc | apply pw_below_drewN | apply below_drew1) | exact HB.out)) hb); clear HO_56; clear HO409; clear HB; have HO_56 := n0_; have HO409 := n1_; have HB := n2_; clear n0_ n1_ n2_; (try clear hb); (try clear hb2); (try clear hk); (try clear hi))); try go_wp2_with (first | (go_at_call 10; (with_reducible refine (impl_PairTime.calls kj83 _ _ l1 t399 true _ ?side1 ?side2 A122.out).mono ?_); (case side1 => repeat (first | exact (Kd.C_below HR1.out HB.out) | (with_reducible refine Kd.C_alloc ?_ _) | (with_reducible refine Kd.C_drewN ?_ _) | (with_reducible refine Kd.C_drew ?_))); (case side2 => exact HC1.out); rintro e w129 ⟨rfl, hb⟩; have n0_ := Aside0.mk (Kd.R_below (by (with_reducible repeat (first | apply Kd.R_alloc | apply Kd.R_drewN | apply Kd.R_drew)); exact HO_56.out) hb); have n1_ := Aside0.mk (below_step (by repeat (first | (with_reducible first | exact HB.out | apply below_alloc | apply pw_below_drewN | apply below_drew1) | exact HB.out)) hb); clear HO_56; clear HB; have HO_56 := n0_; have HB := n1_; clear n0_ n1_; (try clear hb); (try clear hb2); (try clear hk); (try clear hi)) | ((with_reducible refine gate_dst (N := 380) rfl ?_); (try (refine gate_guard (by rfl) ?_; dsimp only)); refine Kd.R_lit (Kd.int .i64) _ 3 ?hg (N := 380) ?hd (xs := ([] : List Int)) (inner := []) (ok := fun _ => True) (okp := fun _ => True) ?hr ?hp (fun _ hk => hk) trivial (Below.refl _ _) (Nat.le_refl _) (by simp) ?_; (case hd => rfl); (case hg => rfl); (case hr => first | (go_simp; done) | (go_simp; rfl)); (case hp => exact (Reps.none _ _)); intro v402 w130 ho131 hb hg_ hnew_; clear hg_ hnew_; (first | rw [← Ny401.out] at ho131 | (simp only [Int.reduceToNat] at ho131; rw [← Ny401.out] at ho131)); have n0_ := Aside0.mk (Kd.R_elder' (by (with_reducible repeat (first | apply Kd.R_alloc | apply Kd.R_drewN | apply Kd.R_drew)); exact HO_56.out) (Kd.R_base ho131) hb); have n1_ := Aside0.mk (Kd.R_lower (Kd.R_new' ho131 (Kd.R_lt (by (with_reducible repeat (first | apply Kd.R_alloc | apply Kd.R_drewN | apply Kd.R_drew)); exact HO_56.out))) (below_size (by repeat (first | (with_reducible first | exact HB.out | apply below_alloc | apply pw_below_drewN | apply below_drew1) | exact HB.out)))); have n2_ := Aside0.mk (below_step (by repeat (first | (with_reducible first | exact HB.out | apply below_alloc | apply pw_below_drewN | apply below_drew1) | exact HB.out)) hb); clear HO_56; clear HB; have HO_56 := n0_; have HO403 := n1_; have HB := n2_; clear n0_ n1_ n2_; clear hb ho131) | ((with_reducible refine gate_builtin (b := .append) (xs := #[.tmp 380, .tmp 381]) rfl ?_); (try (refine gate_guard (by rfl) ?_; dsimp only)); at_builtin; refine Kd.R_append_rows (Kd.int .i64) (w0 := w) w.heap.size rfl (.tmp 380) (.tmp 381) 22 3 (.int .i64 0) 8 rfl Try.underlying22 info3 rfl (by decide) (by omega) v402 y401 l1 _ _ _ (fun k_ => some k_ ≠ (v392 : Value).ownBlock) (fun _ => False) rfl rfl ?aO ?aR (fun _ _ h => h) (fun _ h => h.elim) ?aF ?aB ?aS ?aL ?_; (case aR => repeat (first | exact (Kd.C_below HR1.out HB.out) | (with_reducible refine Kd.C_alloc ?_ _) | (with_reducible refine Kd.C_drewN ?_ _) | (with_reducible refine Kd.C_drew ?_))); (case aB => exact (by repeat (first | (with_reducible first | exact HB.out | apply below_alloc | apply pw_below_drewN | apply below_drew1) | exact HB.out))); (case aF => exact (fun k_ hk => Kd.fresh' (Kd.R_lt (by (with_reducible repeat (first | apply Kd.R_alloc | apply Kd.R_drewN | apply Kd.R_drew)); exact HO_56.out)) k_ hk)); (case aO => exact (by (with_reducible repeat (first | apply Kd.R_alloc | apply Kd.R_drewN | apply Kd.R_drew)); exact Kd.R_mono HO403.out (fun _ hk => hk.2))); (case aS => exact (below_size (by repeat (first | (with_reducible first | exact HB.out | apply below_alloc | apply pw_below_drewN | apply below_drew1) | exact HB.out)))); (case aL => have := LMc123.out; omega); intro v405 w132 ho hb hg hat; rw [← Ny404.out] at ho; have n0_ := Aside0.mk (Kd.R_after (ok := (fun _ => True)) (by (with_reducible repeat (first | apply Kd.R_alloc | apply Kd.R_drewN | apply Kd.R_drew)); exact HO_56.out) hg hat); have n1_ := Aside0.mk (hb); have n2_ := Aside0.mk (ho); clear HO_56; clear HB; clear HO403; have HO_56 := n0_; have HB := n1_; have HO406 := n2_; clear n0_ n1_ n2_; clear ho hb hg hat) | ((with_reducible refine gate_builtin (b := .append) (xs := #[.tmp 382, .tmp 384]) rfl ?_); (try (refine gate_guard (by rfl) ?_; dsimp only)); at_builtin; refine Kd.R_append (Kd.int .i64) (w0 := w) w.heap.size rfl (.tmp 382) (.tmp 384) 22 3 (.int .i64 0) 8 rfl Try.underlying22 info3 rfl (by decide) (by omega) v405 y404 a2 [.int .i64 a2] (fun k_ => some k_ ≠ (v392 : Value).ownBlock) (fun _ => False) rfl rfl ?aP (fun _ hk => hk.elim) ?aF ?aO ?aB ?aS ?aL ?_; (case aP => exact rfl); (case aB => exact (by repeat (first | (with_reducible first | exact HB.out | apply below_alloc | apply pw_below_drewN | apply below_drew1) | exact HB.out))); (case aF => exact (fun k_ hk => Kd.fresh' (Kd.R_lt (by (with_reducible repeat (first | apply Kd.R_alloc | apply Kd.R_drewN | apply Kd.R_drew)); exact HO_56.out)) k_ hk)); (case aO => exact (by (with_reducible repeat (first | apply Kd.R_alloc | apply Kd.R_drewN | apply Kd.R_drew)); exact HO406.out)); (case aS => exact (below_size (by repeat (first | (with_reducible first | exact HB.out | apply below_alloc | apply pw_below_drewN | apply below_drew1) | exact HB.out)))); (case aL => have := LMc124.out; omega); intro v408 w133 ho hb hg hat; rw [← Ny407.out] at ho; have n0_ := Aside0.mk (Kd.R_after (ok := (fun _ => True)) (by (with_reducible repeat (first | apply Kd.R_alloc | apply Kd.R_drewN | apply Kd.R_drew)); exact HO_56.out) hg hat); have n1_ := Aside0.mk (hb); have n2_ := Aside0.mk (ho); clear HO_56; clear HB; clear HO406; have HO_56 := n0_; have HB := n1_; have HO409 := n2_; clear n0_ n1_ n2_; clear ho hb hg hat; obtain ⟨Ao134, co134, eo134⟩ := Kd.R_slice HO409.out; subst eo134) | (go_at_call 10; (with_reducible refine (impl_PairTime.calls kj83 _ _ y407 t410 true _ ?side1 ?side2 A125.out).mono ?_); (case side1 => repeat (first | exact (Kd.R_reads' HO409.out).2.2 | (with_reducible refine Kd.C_alloc ?_ _) | (with_reducible refine Kd.C_drewN ?_ _) | (with_reducible refine Kd.C_drew ?_))); (case side2 => exact (Kd.R_reads' HO409.out).2.1); rintro e w135 ⟨rfl, hb⟩; have n0_ := Aside0.mk (Kd.R_below (by (with_reducible repeat (first | apply Kd.R_alloc | apply Kd.R_drewN | apply Kd.R_drew)); exact HO_56.out) hb); have n1_ := Aside0.mk (Kd.R_below (by (with_reducible repeat (first | apply Kd.R_alloc | apply Kd.R_drewN | apply Kd.R_drew)); exact HO409.out) hb); have n2_ := Aside0.mk (below_step (by repeat (first | (with_reducible first | exact HB.out | apply below_alloc | apply pw_below_drewN | apply below_drew1) | exact HB.out)) hb); clear HO_56; clear HO409; clear HB; have HO_56 := n0_; have HO409 := n1_; have HB := n2_; clear n0_ n1_ n2_; (try clear hb); (try clear hb2); (try clear hk); (try clear hi))))
          refine Met.intro ?_
          go_step
          refine laws_FnPairsChangeOfAll.C6.meet _ _ _ _ _ _ _ _ _ _ _ _ _ _ _ _ _ _ _ _ _ _ _ _ _ rfl rfl rfl rfl rfl rfl rfl rfl rfl rfl rfl rfl rfl rfl rfl ?_
          exact ⟨_, H', ⟨by have := HJ8.out; have := HJ22.out; have := HJ83.out; first | omega | exact Nat.le_refl _⟩, ⟨by (with_reducible repeat (first | apply Kd.R_alloc | apply Kd.R_drewN | apply Kd.R_drew)); exact Kd.R_mono HO_56.out (fun _ hk => trivial)⟩, ⟨by repeat (first | (with_reducible first | exact HB.out | apply below_alloc | apply pw_below_drewN | apply below_drew1) | exact HB.out)⟩⟩
         ·rw [if_neg c128] at H
          exact absurd H (by simp)
        ·replace c127 := Bool.eq_false_iff.mpr c127
         subst c127
         have H1 : (none) = some r := by rw [if_neg (show ¬ (false = true) by decide)] at H; exact H
         clear H
         have H := H1
         clear H1
         exact absurd H (by simp)
       ·replace c126 := Bool.eq_false_iff.mpr c126
        subst c126
        have H1 : (none) = some r := by rw [if_neg (show ¬ (false = true) by decide)] at H; exact H
        clear H
        have H := H1
        clear H1
        exact absurd H (by simp)
      ·rw [if_neg c124] at H
       exact absurd H (by simp)
     ·rw [if_neg c123] at H
      exact absurd H (by simp)
    ·replace c121 := Bool.eq_false_iff.mpr c121
     subst c121
     have H1 : (laws_FnPairsChangeOfAll.j6 kj83 l3 a4 a5 a6 a7 t378 t379 t382 t383 t390 t391) = some r := by rw [if_neg (show ¬ (false = true) by decide)] at H; exact H
     clear H
     have H := H1
     clear H1
     have H' := Aside0.mk H
     clear H
     go_wp2
     repeat (go_quiet (fail); try go_wp2)
     refine Met.intro ?_
     go_step
     refine laws_FnPairsChangeOfAll.C6.meet _ _ _ _ _ _ _ _ _ _ _ _ _ _ _ _ _ _ _ _ _ _ _ _ _ rfl rfl rfl rfl rfl rfl rfl rfl rfl rfl rfl rfl rfl rfl rfl ?_
     exact ⟨_, H', ⟨by have := HJ8.out; have := HJ22.out; have := HJ83.out; first | omega | exact Nat.le_refl _⟩, ⟨by (with_reducible repeat (first | apply Kd.R_alloc | apply Kd.R_drewN | apply Kd.R_drew)); exact HO_56.out⟩, ⟨by repeat (first | (with_reducible first | exact HB.out | apply below_alloc | apply pw_below_drewN | apply below_drew1) | exact HB.out)⟩⟩
   case rest =>
    intro a' wc hinv
    go_step
    exact laws_FnPairsChangeOfAll.rest6 k A0 c0 l0 A1 c1 l1 a2 A3 c3 l3 a4 a5 a6 a7 r w HR0 HC0 HR1 HC1 HR3 HC3 kj8 kj22 kj83 HJ8 HJ22 HJ83 t378 t379 t382 t383 t390 t391 v392 wc a' hinv

end Go.Proofs.Ytmejodmokogblaa.G
