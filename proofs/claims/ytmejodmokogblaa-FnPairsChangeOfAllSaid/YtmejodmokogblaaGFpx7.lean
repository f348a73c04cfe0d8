-- Laid by wip/gprint.py (the session's own program, round the kit's printer) for this claim.
import Derived.Test.YtmejodmokogblaaGFpx0
import Derived.Test.YtmejodmokogblaaGFpx1
import Derived.Test.YtmejodmokogblaaGFpx5
import Derived.Test.YtmejodmokogblaaGFpx6
namespace Go.Proofs.Ytmejodmokogblaa.G
open Go.RowKit Go.Proofs.YtmejodmokogblaaW.PrintWords Go.Proofs.YtmejodmokogblaaW.PrintLast Go.Proofs.YtmejodmokogblaaW.PrintMore
attribute [local go_sem] max2_int min2_int max_two min_two max_three min_three max_four min_four   -- for this text's walks alone
set_option linter.unusedVariables false
set_option linter.unusedSimpArgs false

/-! ### impl_notFalling: function 38 -/
/-- The lists in their order, each handed on with a state, as long as it is said to go on. -/
def impl_notFalling.go {σ : Type} (E : σ → List Int → Option (Bool × σ)) (many most : Int) : Nat → Option Int → σ → List Int → Option (Bool × σ)
  | 0, _, _, _ => none
  | k + 1, none, st, l => if (l.length : Int) = many then E st l else if l.length < 1048576 then impl_notFalling.go E many most k (some (if l.length = 0 then 1 else rd l (wrap64 ((l.length : Int) - 1)))) st l else none
  | k + 1, some x, st, l => if x ≤ most then (impl_notFalling.go E many most k none st (l ++ [x])).bind fun p => if p.1 = true then impl_notFalling.go E many most k (some (wrap64 (x + 1))) p.2 l else some (false, p.2) else some (true, st)
/-- All stays but one block; what is new lies behind. -/
def impl_notFalling.Kp (G : Nat) (w W : World) : Prop := (W.os = w.os ∧ W.tape = w.tape ∧ W.output = w.output) ∧ Kept w W (fun k_ => k_ = G)
theorem impl_notFalling.Kp.refl (G : Nat) (w : World) : impl_notFalling.Kp G w w := ⟨⟨rfl, rfl, rfl⟩, Kept.refl _ _⟩
theorem impl_notFalling.Kp.of_below {G : Nat} {w W : World} (h : Below w.heap.size w W) : impl_notFalling.Kp G w W := ⟨⟨h.os, h.tape, h.output⟩, Kept.of_below h _⟩
theorem impl_notFalling.Kp.trans {G : Nat} {w W W2 : World} (h : impl_notFalling.Kp G w W) (k : impl_notFalling.Kp G W W2) : impl_notFalling.Kp G w W2 :=
  ⟨⟨k.1.1.trans h.1.1, k.1.2.1.trans h.1.2.1, k.1.2.2.trans h.1.2.2⟩, Kept.then_ h.2 k.2 (fun _ h9 => .inl h9)⟩
theorem impl_notFalling.Kp.below {G : Nat} {w W W2 : World} (h : impl_notFalling.Kp G w W) (hb : Below W.heap.size W W2) : impl_notFalling.Kp G w W2 := h.trans (impl_notFalling.Kp.of_below hb)
theorem impl_notFalling.Kp.set {G j : Nat} {w W : World} (h : impl_notFalling.Kp G w W) (u : Value) : impl_notFalling.Kp G w (W.setCell ⟨G, j, none⟩ u) :=
  have hs := (Below.refl G W).setCell (p := ⟨G, j, none⟩) (Nat.le_refl _) u
  ⟨⟨hs.os.trans h.1.1, hs.tape.trans h.1.2.1, hs.output.trans h.1.2.2⟩, Kept.setCell h.2 (.inl rfl) _⟩
theorem impl_notFalling.back {G : Nat} {w W W' : World} (hB : Below w.heap.size w W) (hk : impl_notFalling.Kp G W W') (hG : w.heap.size ≤ G) : Below w.heap.size w W' :=
  ⟨hk.1.1.trans hB.os, hk.1.2.1.trans hB.tape, hk.1.2.2.trans hB.output, Nat.le_trans hB.size hk.2.1, fun i hi => (hk.2.2 i (Nat.lt_of_lt_of_le hi hB.size) (fun h => by omega)).trans (hB.block i hi)⟩
theorem impl_notFalling.keepR {N0 G : Nat} {W W' : World} {v : Value} {xs : List Int} (h : Kd.R (Kd.int .i64) 3 W N0 (fun _ => True) v xs) (hk : impl_notFalling.Kp G W W') (hG : G < N0) : Kd.R (Kd.int .i64) 3 W' N0 (fun _ => True) v xs :=
  Kd.R_mono (Kd.R_kept (Kd.R_mono (ok' := fun k_ => N0 ≤ k_) (Kd.R_bound h) (fun _ hk => hk.2.1)) hk.2 (fun k h1 h2 => by omega)) (fun _ _ => trivial)
theorem impl_notFalling.clone (l : List Int) (h : l.length < 1048576) : slices_Clone_int_int.f l = some l := by
  unfold slices_Clone_int_int.f
  rw [if_pos (by omega)]
theorem impl_notFalling.info : (Try.prog.info? 3).map (fun i => (i.zero, i.size, i.bytes)) = some (some (.int .i64 0), 1, 8) := by kernel_rfl
theorem impl_notFalling.one_row {W : World} {g : Nat} {x : Int} (h : W.heap[g]? = some (.cells #[.int .i64 x] 3 (0, 0))) : Kd.C (Kd.int .i64) W (some ⟨g, 0, none⟩) 1 [x] := by
  have hR : Kd.R (Kd.int .i64) 3 W 0 (fun _ => True) (.slice (some ⟨g, 0, none⟩) 1 1) [x] := Kd.R_of_own (enc := Value.int .i64) (h1 := fun _ => rfl) ⟨rfl, .inr ⟨g, 1, _, rfl, Nat.zero_le _, h, Nat.le_refl _, by simp only [maxLen]; omega, rfl, rfl⟩⟩ (fun _ _ => trivial)
  exact (Kd.R_reads' hR).2.2
set_option maxHeartbeats 8000000 in
set_option maxRecDepth 100000 in
theorem impl_notFalling.on {σ : Type} (E : σ → List Int → Option (Bool × σ)) (many most : Int) (g : Nat) (lb : Array Value) (G B1 B2 B3 B4 N0 : Nat) (R : σ → World → Prop)
    (eg : ∀ args w, (callFunc g args).run Try.prog w = .ok (.enter g args) w) (hne : B1 ≠ G ∧ B2 ≠ G ∧ B3 ≠ G ∧ B4 ≠ G) (hG : G < N0) (hR : ∀ st w w', R st w → Below w.heap.size w w' → R st w')
    (hE : ∀ st l b st' w v, (l.length : Int) = many → E st l = some (b, st') → R st w → N0 ≤ w.heap.size → Kd.R (Kd.int .i64) 3 w N0 (fun _ => True) v l → Calls Try.prog g (#[v] ++ lb) w fun e w' => e = .returned (.bool b) ∧ R st' w' ∧ impl_notFalling.Kp G w w') :
    ∀ (k : Nat) (st : σ) (l : List Int) (b : Bool) (st' : σ) (w : World) (v : Value), impl_notFalling.go E many most k none st l = some (b, st') → N0 ≤ w.heap.size → w.heap[B1]? = some (.cells #[.int .i64 many] 3 (0, 0)) → w.heap[B2]? = some (.cells #[.func (.func g) #[] lb] 38 (0, 0)) → w.heap[B3]? = some (.cells #[.int .i64 most] 3 (0, 0)) → w.heap[B4]? = some (.cells #[(.func (.func 55) #[] #[.pointer (some ⟨B1, 0, none⟩), .pointer (some ⟨B2, 0, none⟩), .pointer (some ⟨B3, 0, none⟩), .pointer (some ⟨B4, 0, none⟩)])] 38 (0, 0)) → R st w → Kd.R (Kd.int .i64) 3 w N0 (fun _ => True) v l →
    Calls Try.prog 55 #[v, .pointer (some ⟨B1, 0, none⟩), .pointer (some ⟨B2, 0, none⟩), .pointer (some ⟨B3, 0, none⟩), .pointer (some ⟨B4, 0, none⟩)] w fun e w' => e = .returned (.bool b) ∧ R st' w' ∧ impl_notFalling.Kp G w w' := by
  have eg1 : ∀ args w, (callFunc 55 args).run Try.prog w = .ok (.enter 55 args) w := enters_of Try.func55 (by kernel_rfl) rfl
  have HNE := Aside0.mk hne
  have HG := Aside0.mk hG
  have HRs := Aside0.mk hR
  have HE := Aside0.mk hE
  clear hne hG hR hE
  intro k
  induction k using Nat.strongRecOn with
  | _ k ih =>
    intro st l b st' w v h hN h1 h2 h3 h4 hr hl
    have IH := Aside0.mk ih
    clear ih
    cases k with
    | zero => simp [impl_notFalling.go] at h
    | succ k =>
      obtain ⟨A, c, rfl⟩ := Kd.R_slice hl
      have hC := Kd.R_reads' hl
      have c1 : w.cell? ⟨B1, 0, none⟩ = some (.int .i64 many) := (blk_cell h1 0).trans rfl
      rw [impl_notFalling.go] at h
      by_cases hm : (l.length : Int) = many
      · rw [if_pos hm] at h
        have hc := HE.out st l b st' w _ hm h hr hN hl
        have c2 : w.cell? ⟨B2, 0, none⟩ = some (.func (.func g) #[] lb) := (blk_cell h2 0).trans rfl
        have hm2 : ((l.length : Int) == many) = true := by simpa using hm
        clear h h1 h2 h3 h4 hr hl hC hN hm IH HE HRs
        go_enter Try.func55, Try.ntmps55
        go_wp2_with (go_at_fn g; refine hc.mono ?_; rintro e w' ⟨rfl, hr', hk⟩)
        go_ret
        exact ⟨rfl, hr', hk⟩
      · rw [if_neg hm] at h
        by_cases hlt : l.length < 1048576
        · rw [if_pos hlt] at h
          have hm2 : ((l.length : Int) == many) = false := by simpa using hm
          have hx0 : ∃ x0, x0 = (if l.length = 0 then (1 : Int) else rd l (wrap64 ((l.length : Int) - 1))) := ⟨_, rfl⟩
          obtain ⟨x0, hx0⟩ := hx0
          rw [← hx0] at h
          have HX := Aside0.mk hx0
          have HH := Aside0.mk h
          have H1 := Aside0.mk h1
          have H2 := Aside0.mk h2
          have H3 := Aside0.mk h3
          have H4 := Aside0.mk h4
          have HR := Aside0.mk hr
          have HL := Aside0.mk hl
          have HN := Aside0.mk hN
          have HC := Aside0.mk hC
          have HLT := Aside0.mk hlt
          clear hx0 h h1 h2 h3 h4 hr hl hN hC hm HE hlt
          by_cases h0 : l.length = 0
          · have hx1 : x0 = 1 := by rw [HX.out, if_pos h0]
            have hd0 : (0 < l.length) = False := eq_false (by omega)
            clear h0 HX
            subst hx1
            go_enter Try.func55, Try.ntmps55
            go_wp2
            clear c1 hm2 hd0
            go_loopg [8] k (fun kq v8 wr => ∃ (x : Int) (st1 : σ), v8 = .int .i64 x ∧ Aside0 (impl_notFalling.go E many most kq (some x) st1 l = some (b, st')) ∧ Aside0 (kq ≤ k) ∧ Aside0 (N0 ≤ wr.heap.size) ∧ Aside0 (wr.heap[B1]? = some (.cells #[.int .i64 many] 3 (0, 0))) ∧ Aside0 (wr.heap[B2]? = some (.cells #[.func (.func g) #[] lb] 38 (0, 0))) ∧ Aside0 (wr.heap[B3]? = some (.cells #[.int .i64 most] 3 (0, 0))) ∧ Aside0 (wr.heap[B4]? = some (.cells #[(.func (.func 55) #[] #[.pointer (some ⟨B1, 0, none⟩), .pointer (some ⟨B2, 0, none⟩), .pointer (some ⟨B3, 0, none⟩), .pointer (some ⟨B4, 0, none⟩)])] 38 (0, 0))) ∧ Aside0 (R st1 wr) ∧ Aside0 (Kd.R (Kd.int .i64) 3 wr N0 (fun _ => True) (.slice A l.length c) l) ∧ Aside0 (impl_notFalling.Kp G w wr))
            case atStart => exact ⟨_, st, rfl, HH, ⟨Nat.le_refl _⟩, HN, H1, H2, H3, H4, HR, HL, ⟨impl_notFalling.Kp.refl _ _⟩⟩
            case round =>
              clear H1 H2 H3 H4 HR HL HN HH HC
              obtain ⟨x, st1, rfl, HA, HKk, HN, H1, H2, H3, H4, HR, HL, HK⟩ := hrel
              cases gk with
              | zero => exact absurd HA.out (by simp [impl_notFalling.go])
              | succ k1 =>
                have H := HA.out
                clear HA
                rw [impl_notFalling.go] at H
                have c3 : wr.cell? ⟨B3, 0, none⟩ = some (.int .i64 most) := (blk_cell H3.out 0).trans rfl
                by_cases hx : x ≤ most
                · rw [if_pos hx] at H
                  obtain ⟨⟨b1, st2⟩, A10, H⟩ := Option.bind_eq_some_iff.mp H
                  have A1 := Aside0.mk A10
                  clear A10
                  have HH := Aside0.mk (show (if b1 = true then impl_notFalling.go E many most k1 (some (wrap64 (x + 1))) st2 l else some (false, st2)) = some (b, st') from H)
                  clear H
                  have hx2 : decide (x ≤ most) = true := decide_eq_true hx
                  clear hx
                  go_wp2
                  clear c3
                  have hlt := HLT.out
                  have hC := Kd.R_reads' HL.out
                  replace H1 := Aside0.mk (blk_drew H1.out)
                  replace H2 := Aside0.mk (blk_drew H2.out)
                  replace H3 := Aside0.mk (blk_drew H3.out)
                  replace H4 := Aside0.mk (blk_drew H4.out)
                  have hbd := below_drew1 (Below.refl wr.heap.size wr)
                  replace HR := Aside0.mk (HRs.out _ _ _ HR.out hbd)
                  replace HL := Aside0.mk (Kd.R_below HL.out hbd)
                  replace HK := Aside0.mk (HK.out.below hbd)
                  replace HN := Aside0.mk (show N0 ≤ wr.drew.heap.size from HN.out)
                  have HBr := Aside0.mk hbd
                  clear hbd
                  refine start_ (n := 8) (S := fun w' => w'.cell? ⟨B4, 0, none⟩ = some (.func (.func 55) #[] #[.pointer (some ⟨B1, 0, none⟩), .pointer (some ⟨B2, 0, none⟩), .pointer (some ⟨B3, 0, none⟩), .pointer (some ⟨B4, 0, none⟩)])) (ds := []) #[false, false, false, false, false, false, false, false] (by kernel_rfl) rfl rfl ((blk_cell H4.out 0).trans rfl) (fun hHeld => ?_)
                  generalize wr.drew = wd at H1 H2 H3 H4 HR HL HK HBr HN hHeld ⊢
                  refine take_ (i := 0) (N := some 31) (v := ?_) (a' := ?_) #[true, false, false, false, false, false, false, false] rfl rfl (by kernel_rfl) (fun _ _ _ h => h) (Or.inl ⟨by rfl, ?_⟩) hHeld ?_ ?_
                  rotate_left
                  · rintro w' s0
                    go_simp
                    with_reducible rfl
                  rotate_left
                  · simp only [Act.put, List.setIfInBounds_toArray, List.set_cons_zero, List.set_cons_succ, i64_w, i32_w]
                    rfl
                  refine pure_ (i := 1) (N := some 32) (v := ?_) (a' := ?_) #[true, true, false, false, false, false, false, false] rfl rfl (by kernel_rfl) (fun _ _ _ h => h) (Or.inl ⟨by rfl, ?_⟩) ?_ ?_
                  rotate_left
                  · intro w'
                    go_simp
                    with_reducible rfl
                  rotate_left
                  · simp only [Act.put, List.setIfInBounds_toArray, List.set_cons_zero, List.set_cons_succ, i64_w, i32_w]
                    rfl
                  refine pure_ (i := 3) (N := some 34) (v := ?_) (a' := ?_) #[true, true, false, true, false, false, false, false] rfl rfl (by kernel_rfl) (fun _ _ _ h => h) (Or.inl ⟨by rfl, ?_⟩) ?_ ?_
                  rotate_left
                  · intro w'
                    go_simp
                    with_reducible rfl
                  rotate_left
                  · simp only [Act.put, List.setIfInBounds_toArray, List.set_cons_zero, List.set_cons_succ, i64_w, i32_w]
                    rfl
                  have hHd := Aside0.mk hHeld
                  refine join_ (σ := Value × Nat) 3 #[true, true, true, true, true, false, false, false] (fun s => [(33, s.1), (35, .slice (some ⟨s.2, 0, none⟩) 1 1)]) (fun s w' => Aside0 (Kd.R (Kd.int .i64) 3 w' wd.heap.size (fun _ => True) s.1 l) ∧ Aside0 (w'.heap[s.2]? = some (.cells #[.int .i64 x] 3 (0, 0))) ∧ Aside0 (Below wd.heap.size wd w') ∧ Aside0 (wd.heap.size ≤ s.2) ∧ Aside0 (∀ k_, s.1.ownBlock = some k_ → k_ ≠ s.2)) ?_ ?_
                  rotate_left
                  · intro hJ
                    refine two_ (i := 2) (j := 4) (Ni := some 33) (Nj := some 35) #[true, true, true, true, false, false, false, false] #[true, true, false, true, true, false, false, false] rfl rfl rfl rfl (by kernel_rfl) (by decide) (by decide) (fun K hK => ?_) (fun K hK => ?_)
                    · skip
                      refine goes_ Try.func29 (by kernel_rfl) rfl #[.slice A l.length c] (by rfl) rfl rfl (by (try simp only [List.map_toArray, List.map_cons, List.map_nil]); first | done | rfl) ?_
                      refine (slices_Clone_int_int.calls A c l l _ (Kd.R_reads' HL.out).2.2 hC.2.1 (impl_notFalling.clone l hlt)).mono ?_
                      rintro e wa ⟨va, rfl, ho, hb⟩
                      refine ⟨_, rfl, ?_⟩
                      have HBa := Aside0.mk hb
                      have HOa := Aside0.mk ho
                      clear hb ho
                      refine hK.out _ _ (pw_cell_below HBa.out hHeld) (fun hHeld => ?_)
                      clear hK K
                      refine norm_ (a' := ?_) ?_ ?_
                      rotate_left
                      · show Act.put _ (some 33) _ = _
                        simp only [Act.put, List.setIfInBounds_toArray, List.set_cons_zero, List.set_cons_succ, i64_w, i32_w]
                        rfl
                      refine one_ (i := 4) (N := some 35) #[true, true, true, true, true, false, false, false] rfl rfl (by kernel_rfl) (by decide) (fun K hK => ?_)
                      refine event_step (v := .slice (some ⟨wa.heap.size, 0, none⟩) 1 1) (w1 := wa.alloc (.cells #[.int .i64 x] 3)) (by rfl) ?hr ?_
                      (case hr => first | (go_simp; done) | (go_simp; rfl))
                      refine hK.out _ _ (pw_cell_below (below_alloc (Below.refl _ _) _) hHeld) (fun hHeld => ?_)
                      clear hK K
                      exact norm_ (by first | (simp only [putAll, Act.put, List.setIfInBounds_toArray, List.set_cons_zero, List.set_cons_succ]; done) | (simp only [putAll, Act.put, List.setIfInBounds_toArray, List.set_cons_zero, List.set_cons_succ]; rfl)) (hJ (va, wa.heap.size) _ ⟨⟨Kd.R_alloc HOa.out _⟩, ⟨blk_new wa _⟩, ⟨below_alloc HBa.out _⟩, ⟨below_size HBa.out⟩, ⟨fun k_ hk_ => Nat.ne_of_lt (Kd.R_lt HOa.out k_ hk_)⟩⟩)
                    · skip
                      refine event_step (v := .slice (some ⟨wd.heap.size, 0, none⟩) 1 1) (w1 := wd.alloc (.cells #[.int .i64 x] 3)) (by rfl) ?hr ?_
                      (case hr => first | (go_simp; done) | (go_simp; rfl))
                      have HBb := Aside0.mk (below_alloc (Below.refl wd.heap.size wd) (.cells #[.int .i64 x] 3))
                      have BX := Aside0.mk (blk_new wd (.cells #[.int .i64 x] 3))
                      have hszb : (wd.alloc (.cells #[.int .i64 x] 3)).heap.size = wd.heap.size + 1 := by simp
                      generalize wd.alloc (.cells #[.int .i64 x] 3) = wb at HBb BX hszb ⊢
                      refine hK.out _ _ (pw_cell_below HBb.out hHeld) (fun hHeld => ?_)
                      clear hK K
                      refine norm_ (a' := ?_) ?_ ?_
                      rotate_left
                      · show Act.put _ (some 35) _ = _
                        simp only [Act.put, List.setIfInBounds_toArray, List.set_cons_zero, List.set_cons_succ, i64_w, i32_w]
                        rfl
                      refine one_ (i := 2) (N := some 33) #[true, true, true, true, true, false, false, false] rfl rfl (by kernel_rfl) (by decide) (fun K hK => ?_)
                      refine goes_ Try.func29 (by kernel_rfl) rfl #[.slice A l.length c] (by rfl) rfl rfl (by (try simp only [List.map_toArray, List.map_cons, List.map_nil]); first | done | rfl) ?_
                      refine (slices_Clone_int_int.calls A c l l _ (Kd.C_below (Kd.R_reads' HL.out).2.2 HBb.out) hC.2.1 (impl_notFalling.clone l hlt)).mono ?_
                      rintro e wa ⟨va, rfl, ho, hb⟩
                      refine ⟨_, rfl, ?_⟩
                      have HBa := Aside0.mk hb
                      have HOa := Aside0.mk ho
                      clear hb ho
                      refine hK.out _ _ (pw_cell_below HBa.out hHeld) (fun hHeld => ?_)
                      clear hK K
                      exact norm_ (by first | (simp only [putAll, Act.put, List.setIfInBounds_toArray, List.set_cons_zero, List.set_cons_succ]; done) | (simp only [putAll, Act.put, List.setIfInBounds_toArray, List.set_cons_zero, List.set_cons_succ]; rfl)) (hJ (va, wd.heap.size) _ ⟨⟨Kd.R_lower HOa.out (below_size HBb.out)⟩, ⟨blk_below (g := wd.heap.size) BX.out HBa.out⟩, ⟨below_step HBb.out HBa.out⟩, ⟨Nat.le_refl _⟩, ⟨fun k_ hk_ => by have h9 := Kd.R_base HOa.out k_ hk_; omega⟩⟩)
                  clear hHeld
                  intro s_ wj hF
                  obtain ⟨v33, g35⟩ := s_
                  (try dsimp only at hF)
                  obtain ⟨HO, BX, HBj, GX, NX⟩ := hF
                  refine norm_ (a' := ?_) ?_ ?_
                  rotate_left
                  · simp only [putAll, Act.put, List.setIfInBounds_toArray, List.set_cons_zero, List.set_cons_succ]
                    rfl
                  refine one_ (i := 5) (N := some 36) #[true, true, true, true, true, true, false, false] rfl rfl (by kernel_rfl) (by decide) (fun K hK => ?_)
                  refine Kd.R_append_rows_step (Kd.int .i64) (w0 := wd) wd.heap.size (by rfl) (.tmp 33) (.tmp 35) 22 3 (.int .i64 0) 8 rfl Try.underlying22 impl_notFalling.info rfl (by decide) (by omega) v33 l [x] _ _ _ (fun _ => True) (fun _ => False) rfl rfl ?aO ?aR (fun _ _ h => h) (fun _ h => h.elim) ?aF ?aB ?aS ?aL ?_
                  (case aO => exact HO.out)
                  (case aR => exact impl_notFalling.one_row BX.out)
                  (case aF => exact (fun _ _ => trivial))
                  (case aB => exact HBj.out)
                  (case aS => exact below_size HBj.out)
                  (case aL => omega)
                  intro v36 w7 ho hb hg hat
                  have HBk := Aside0.mk hb
                  have HO2 := Aside0.mk ho
                  clear ho hb hg hat HO BX GX NX HBj
                  obtain ⟨A36, c36, e36⟩ := Kd.R_slice HO2.out
                  subst e36
                  refine hK.out _ _ (pw_cell_below HBk.out hHd.out) (fun hHeld => ?_)
                  clear hK K
                  refine norm_ (a' := ?_) ?_ ?_
                  rotate_left
                  · show Act.put _ (some 36) _ = _
                    simp only [Act.put, List.setIfInBounds_toArray, List.set_cons_zero, List.set_cons_succ, i64_w, i32_w]
                    rfl
                  have hcall := IH.out k1 (by have := HKk.out; omega) st1 (l ++ [x]) b1 st2 w7 (.slice A36 (l ++ [x]).length c36) A1.out (Nat.le_trans HN.out (below_size HBk.out)) (blk_below (g := B1) H1.out HBk.out) (blk_below (g := B2) H2.out HBk.out) (blk_below (g := B3) H3.out HBk.out) (blk_below (g := B4) H4.out HBk.out) (HRs.out _ _ _ HR.out HBk.out) (Kd.R_lower HO2.out HN.out)
                  refine one_ (i := 6) (N := some 37) #[true, true, true, true, true, true, true, false] rfl rfl (by kernel_rfl) (by decide) (fun K hK => ?_)
                  refine call_ 55 #[.slice A36 (l ++ [x]).length c36, .pointer (some ⟨B1, 0, none⟩), .pointer (some ⟨B2, 0, none⟩), .pointer (some ⟨B3, 0, none⟩), .pointer (some ⟨B4, 0, none⟩)] (by rfl) rfl (by have he := eg1 #[.slice A36 (l ++ [x]).length c36, .pointer (some ⟨B1, 0, none⟩), .pointer (some ⟨B2, 0, none⟩), .pointer (some ⟨B3, 0, none⟩), .pointer (some ⟨B4, 0, none⟩)] w7; unfold execOp; simp [resolve, Deferred.ofValue, invoke, Act.eval, he]) ?_
                  refine hcall.mono ?_
                  clear hcall
                  rintro e w9 ⟨rfl, hr9, hk9⟩
                  refine ⟨_, rfl, ?_⟩
                  have M1 := Aside0.mk (blk_kept (blk_below (g := B1) H1.out HBk.out) hk9.2 (fun h9 => HNE.out.1 h9))
                  have M2 := Aside0.mk (blk_kept (blk_below (g := B2) H2.out HBk.out) hk9.2 (fun h9 => HNE.out.2.1 h9))
                  have M3 := Aside0.mk (blk_kept (blk_below (g := B3) H3.out HBk.out) hk9.2 (fun h9 => HNE.out.2.2.1 h9))
                  have M4 := Aside0.mk (blk_kept (blk_below (g := B4) H4.out HBk.out) hk9.2 (fun h9 => HNE.out.2.2.2 h9))
                  have ML := Aside0.mk (impl_notFalling.keepR (Kd.R_below HL.out HBk.out) hk9 HG.out)
                  have MR := Aside0.mk hr9
                  have MN := Aside0.mk (Nat.le_trans HN.out (Nat.le_trans (below_size HBk.out) hk9.2.1))
                  have MK := Aside0.mk ((HK.out.below HBk.out).trans hk9)
                  clear H1 H2 H3 H4 HL HR HN HK HBk HO2 hr9 hk9 HBr
                  refine hK.out _ _ ((blk_cell M4.out 0).trans rfl) (fun hHeld => ?_)
                  clear hK K
                  refine norm_ (a' := ?_) ?_ ?_
                  rotate_left
                  · show Act.put _ (some 37) _ = _
                    simp only [Act.put, List.setIfInBounds_toArray, List.set_cons_zero, List.set_cons_succ, i64_w, i32_w]
                    rfl
                  refine pure_ (i := 7) (N := some 38) (v := ?_) (a' := ?_) #[true, true, true, true, true, true, true, true] rfl rfl (by kernel_rfl) (fun _ _ _ h => h) (Or.inl ⟨by rfl, ?_⟩) ?_ ?_
                  rotate_left
                  · intro w'
                    go_simp
                    with_reducible rfl
                  rotate_left
                  · simp only [Act.put, List.setIfInBounds_toArray, List.set_cons_zero, List.set_cons_succ, i64_w, i32_w]
                    rfl
                  refine done_ (by kernel_rfl) ?_
                  clear hlt hC hHeld hHd
                  cases b1 with
                  | false =>
                    have H := HH.out
                    simp only [Bool.false_eq_true, if_false, Option.some.injEq, Prod.mk.injEq] at H
                    obtain ⟨rfl, rfl⟩ := H
                    go_wp2
                    go_ret
                    exact ⟨rfl, MR.out, MK.out⟩
                  | true =>
                    have H := HH.out
                    simp only [if_true] at H
                    have HH := Aside0.mk H
                    clear H
                    go_wp2
                    go_roundg k1
                    case measure => have := HKk.out; omega
                    case rel => exact ⟨_, st2, rfl, HH, ⟨by have := HKk.out; omega⟩, MN, M1, M2, M3, M4, MR, ML, MK⟩
                · rw [if_neg hx] at H
                  have hx2 : decide (x ≤ most) = false := decide_eq_false hx
                  clear hx
                  simp only [Option.some.injEq, Prod.mk.injEq] at H
                  obtain ⟨rfl, rfl⟩ := H
                  go_wp2
                  go_ret
                  exact ⟨rfl, HR.out, HK.out⟩
          · have hx1 : x0 = rd l (wrap64 ((l.length : Int) - 1)) := by rw [HX.out, if_neg h0]
            have hd0 : (0 < l.length) = True := eq_true (by omega)
            have hlt := HLT.out
            have hw : wrap64 ((l.length : Int) - 1) = (l.length : Int) - 1 := by unfold wrap64; omega
            have p0 : 0 ≤ wrap64 ((l.length : Int) - 1) := by rw [hw]; omega
            have q0 : wrap64 ((l.length : Int) - 1) < (l.length : Int) := by rw [hw]; omega
            obtain ⟨ad, eA, hcell⟩ := Kd.at_int HC.out.2.2 _ p0 q0
            clear h0 hw hlt HX
            subst hx1
            cases eA
            have p1 := eq_true p0
            have q1 := eq_true q0
            clear p0 q0
            go_enter Try.func55, Try.ntmps55
            go_wp2
            clear c1 hm2 hd0 p1 q1 hcell
            go_loopg [8] k (fun kq v8 wr => ∃ (x : Int) (st1 : σ), v8 = .int .i64 x ∧ Aside0 (impl_notFalling.go E many most kq (some x) st1 l = some (b, st')) ∧ Aside0 (kq ≤ k) ∧ Aside0 (N0 ≤ wr.heap.size) ∧ Aside0 (wr.heap[B1]? = some (.cells #[.int .i64 many] 3 (0, 0))) ∧ Aside0 (wr.heap[B2]? = some (.cells #[.func (.func g) #[] lb] 38 (0, 0))) ∧ Aside0 (wr.heap[B3]? = some (.cells #[.int .i64 most] 3 (0, 0))) ∧ Aside0 (wr.heap[B4]? = some (.cells #[(.func (.func 55) #[] #[.pointer (some ⟨B1, 0, none⟩), .pointer (some ⟨B2, 0, none⟩), .pointer (some ⟨B3, 0, none⟩), .pointer (some ⟨B4, 0, none⟩)])] 38 (0, 0))) ∧ Aside0 (R st1 wr) ∧ Aside0 (Kd.R (Kd.int .i64) 3 wr N0 (fun _ => True) (.slice (some ad) l.length c) l) ∧ Aside0 (impl_notFalling.Kp G w wr))
            case atStart => exact ⟨_, st, rfl, HH, ⟨Nat.le_refl _⟩, HN, H1, H2, H3, H4, HR, HL, ⟨impl_notFalling.Kp.refl _ _⟩⟩
            case round =>
              clear H1 H2 H3 H4 HR HL HN HH HC
              obtain ⟨x, st1, rfl, HA, HKk, HN, H1, H2, H3, H4, HR, HL, HK⟩ := hrel
              cases gk with
              | zero => exact absurd HA.out (by simp [impl_notFalling.go])
              | succ k1 =>
                have H := HA.out
                clear HA
                rw [impl_notFalling.go] at H
                have c3 : wr.cell? ⟨B3, 0, none⟩ = some (.int .i64 most) := (blk_cell H3.out 0).trans rfl
                by_cases hx : x ≤ most
                · rw [if_pos hx] at H
                  obtain ⟨⟨b1, st2⟩, A10, H⟩ := Option.bind_eq_some_iff.mp H
                  have A1 := Aside0.mk A10
                  clear A10
                  have HH := Aside0.mk (show (if b1 = true then impl_notFalling.go E many most k1 (some (wrap64 (x + 1))) st2 l else some (false, st2)) = some (b, st') from H)
                  clear H
                  have hx2 : decide (x ≤ most) = true := decide_eq_true hx
                  clear hx
                  go_wp2
                  clear c3
                  have hlt := HLT.out
                  have hC := Kd.R_reads' HL.out
                  replace H1 := Aside0.mk (blk_drew H1.out)
                  replace H2 := Aside0.mk (blk_drew H2.out)
                  replace H3 := Aside0.mk (blk_drew H3.out)
                  replace H4 := Aside0.mk (blk_drew H4.out)
                  have hbd := below_drew1 (Below.refl wr.heap.size wr)
                  replace HR := Aside0.mk (HRs.out _ _ _ HR.out hbd)
                  replace HL := Aside0.mk (Kd.R_below HL.out hbd)
                  replace HK := Aside0.mk (HK.out.below hbd)
                  replace HN := Aside0.mk (show N0 ≤ wr.drew.heap.size from HN.out)
                  have HBr := Aside0.mk hbd
                  clear hbd
                  refine start_ (n := 8) (S := fun w' => w'.cell? ⟨B4, 0, none⟩ = some (.func (.func 55) #[] #[.pointer (some ⟨B1, 0, none⟩), .pointer (some ⟨B2, 0, none⟩), .pointer (some ⟨B3, 0, none⟩), .pointer (some ⟨B4, 0, none⟩)])) (ds := []) #[false, false, false, false, false, false, false, false] (by kernel_rfl) rfl rfl ((blk_cell H4.out 0).trans rfl) (fun hHeld => ?_)
                  generalize wr.drew = wd at H1 H2 H3 H4 HR HL HK HBr HN hHeld ⊢
                  refine take_ (i := 0) (N := some 31) (v := ?_) (a' := ?_) #[true, false, false, false, false, false, false, false] rfl rfl (by kernel_rfl) (fun _ _ _ h => h) (Or.inl ⟨by rfl, ?_⟩) hHeld ?_ ?_
                  rotate_left
                  · rintro w' s0
                    go_simp
                    with_reducible rfl
                  rotate_left
                  · simp only [Act.put, List.setIfInBounds_toArray, List.set_cons_zero, List.set_cons_succ, i64_w, i32_w]
                    rfl
                  refine pure_ (i := 1) (N := some 32) (v := ?_) (a' := ?_) #[true, true, false, false, false, false, false, false] rfl rfl (by kernel_rfl) (fun _ _ _ h => h) (Or.inl ⟨by rfl, ?_⟩) ?_ ?_
                  rotate_left
                  · intro w'
                    go_simp
                    with_reducible rfl
                  rotate_left
                  · simp only [Act.put, List.setIfInBounds_toArray, List.set_cons_zero, List.set_cons_succ, i64_w, i32_w]
                    rfl
                  refine pure_ (i := 3) (N := some 34) (v := ?_) (a' := ?_) #[true, true, false, true, false, false, false, false] rfl rfl (by kernel_rfl) (fun _ _ _ h => h) (Or.inl ⟨by rfl, ?_⟩) ?_ ?_
                  rotate_left
                  · intro w'
                    go_simp
                    with_reducible rfl
                  rotate_left
                  · simp only [Act.put, List.setIfInBounds_toArray, List.set_cons_zero, List.set_cons_succ, i64_w, i32_w]
                    rfl
                  have hHd := Aside0.mk hHeld
                  refine join_ (σ := Value × Nat) 3 #[true, true, true, true, true, false, false, false] (fun s => [(33, s.1), (35, .slice (some ⟨s.2, 0, none⟩) 1 1)]) (fun s w' => Aside0 (Kd.R (Kd.int .i64) 3 w' wd.heap.size (fun _ => True) s.1 l) ∧ Aside0 (w'.heap[s.2]? = some (.cells #[.int .i64 x] 3 (0, 0))) ∧ Aside0 (Below wd.heap.size wd w') ∧ Aside0 (wd.heap.size ≤ s.2) ∧ Aside0 (∀ k_, s.1.ownBlock = some k_ → k_ ≠ s.2)) ?_ ?_
                  rotate_left
                  · intro hJ
                    refine two_ (i := 2) (j := 4) (Ni := some 33) (Nj := some 35) #[true, true, true, true, false, false, false, false] #[true, true, false, true, true, false, false, false] rfl rfl rfl rfl (by kernel_rfl) (by decide) (by decide) (fun K hK => ?_) (fun K hK => ?_)
                    · skip
                      refine goes_ Try.func29 (by kernel_rfl) rfl #[.slice (some ad) l.length c] (by rfl) rfl rfl (by (try simp only [List.map_toArray, List.map_cons, List.map_nil]); first | done | rfl) ?_
                      refine (slices_Clone_int_int.calls (some ad) c l l _ (Kd.R_reads' HL.out).2.2 hC.2.1 (impl_notFalling.clone l hlt)).mono ?_
                      rintro e wa ⟨va, rfl, ho, hb⟩
                      refine ⟨_, rfl, ?_⟩
                      have HBa := Aside0.mk hb
                      have HOa := Aside0.mk ho
                      clear hb ho
                      refine hK.out _ _ (pw_cell_below HBa.out hHeld) (fun hHeld => ?_)
                      clear hK K
                      refine norm_ (a' := ?_) ?_ ?_
                      rotate_left
                      · show Act.put _ (some 33) _ = _
                        simp only [Act.put, List.setIfInBounds_toArray, List.set_cons_zero, List.set_cons_succ, i64_w, i32_w]
                        rfl
                      refine one_ (i := 4) (N := some 35) #[true, true, true, true, true, false, false, false] rfl rfl (by kernel_rfl) (by decide) (fun K hK => ?_)
                      refine event_step (v := .slice (some ⟨wa.heap.size, 0, none⟩) 1 1) (w1 := wa.alloc (.cells #[.int .i64 x] 3)) (by rfl) ?hr ?_
                      (case hr => first | (go_simp; done) | (go_simp; rfl))
                      refine hK.out _ _ (pw_cell_below (below_alloc (Below.refl _ _) _) hHeld) (fun hHeld => ?_)
                      clear hK K
                      exact norm_ (by first | (simp only [putAll, Act.put, List.setIfInBounds_toArray, List.set_cons_zero, List.set_cons_succ]; done) | (simp only [putAll, Act.put, List.setIfInBounds_toArray, List.set_cons_zero, List.set_cons_succ]; rfl)) (hJ (va, wa.heap.size) _ ⟨⟨Kd.R_alloc HOa.out _⟩, ⟨blk_new wa _⟩, ⟨below_alloc HBa.out _⟩, ⟨below_size HBa.out⟩, ⟨fun k_ hk_ => Nat.ne_of_lt (Kd.R_lt HOa.out k_ hk_)⟩⟩)
                    · skip
                      refine event_step (v := .slice (some ⟨wd.heap.size, 0, none⟩) 1 1) (w1 := wd.alloc (.cells #[.int .i64 x] 3)) (by rfl) ?hr ?_
                      (case hr => first | (go_simp; done) | (go_simp; rfl))
                      have HBb := Aside0.mk (below_alloc (Below.refl wd.heap.size wd) (.cells #[.int .i64 x] 3))
                      have BX := Aside0.mk (blk_new wd (.cells #[.int .i64 x] 3))
                      have hszb : (wd.alloc (.cells #[.int .i64 x] 3)).heap.size = wd.heap.size + 1 := by simp
                      generalize wd.alloc (.cells #[.int .i64 x] 3) = wb at HBb BX hszb ⊢
                      refine hK.out _ _ (pw_cell_below HBb.out hHeld) (fun hHeld => ?_)
                      clear hK K
                      refine norm_ (a' := ?_) ?_ ?_
                      rotate_left
                      · show Act.put _ (some 35) _ = _
                        simp only [Act.put, List.setIfInBounds_toArray, List.set_cons_zero, List.set_cons_succ, i64_w, i32_w]
                        rfl
                      refine one_ (i := 2) (N := some 33) #[true, true, true, true, true, false, false, false] rfl rfl (by kernel_rfl) (by decide) (fun K hK => ?_)
                      refine goes_ Try.func29 (by kernel_rfl) rfl #[.slice (some ad) l.length c] (by rfl) rfl rfl (by (try simp only [List.map_toArray, List.map_cons, List.map_nil]); first | done | rfl) ?_
                      refine (slices_Clone_int_int.calls (some ad) c l l _ (Kd.C_below (Kd.R_reads' HL.out).2.2 HBb.out) hC.2.1 (impl_notFalling.clone l hlt)).mono ?_
                      rintro e wa ⟨va, rfl, ho, hb⟩
                      refine ⟨_, rfl, ?_⟩
                      have HBa := Aside0.mk hb
                      have HOa := Aside0.mk ho
                      clear hb ho
                      refine hK.out _ _ (pw_cell_below HBa.out hHeld) (fun hHeld => ?_)
                      clear hK K
                      exact norm_ (by first | (simp only [putAll, Act.put, List.setIfInBounds_toArray, List.set_cons_zero, List.set_cons_succ]; done) | (simp only [putAll, Act.put, List.setIfInBounds_toArray, List.set_cons_zero, List.set_cons_succ]; rfl)) (hJ (va, wd.heap.size) _ ⟨⟨Kd.R_lower HOa.out (below_size HBb.out)⟩, ⟨blk_below (g := wd.heap.size) BX.out HBa.out⟩, ⟨below_step HBb.out HBa.out⟩, ⟨Nat.le_refl _⟩, ⟨fun k_ hk_ => by have h9 := Kd.R_base HOa.out k_ hk_; omega⟩⟩)
                  clear hHeld
                  intro s_ wj hF
                  obtain ⟨v33, g35⟩ := s_
                  (try dsimp only at hF)
                  obtain ⟨HO, BX, HBj, GX, NX⟩ := hF
                  refine norm_ (a' := ?_) ?_ ?_
                  rotate_left
                  · simp only [putAll, Act.put, List.setIfInBounds_toArray, List.set_cons_zero, List.set_cons_succ]
                    rfl
                  refine one_ (i := 5) (N := some 36) #[true, true, true, true, true, true, false, false] rfl rfl (by kernel_rfl) (by decide) (fun K hK => ?_)
                  refine Kd.R_append_rows_step (Kd.int .i64) (w0 := wd) wd.heap.size (by rfl) (.tmp 33) (.tmp 35) 22 3 (.int .i64 0) 8 rfl Try.underlying22 impl_notFalling.info rfl (by decide) (by omega) v33 l [x] _ _ _ (fun _ => True) (fun _ => False) rfl rfl ?aO ?aR (fun _ _ h => h) (fun _ h => h.elim) ?aF ?aB ?aS ?aL ?_
                  (case aO => exact HO.out)
                  (case aR => exact impl_notFalling.one_row BX.out)
                  (case aF => exact (fun _ _ => trivial))
                  (case aB => exact HBj.out)
                  (case aS => exact below_size HBj.out)
                  (case aL => omega)
                  intro v36 w7 ho hb hg hat
                  have HBk := Aside0.mk hb
                  have HO2 := Aside0.mk ho
                  clear ho hb hg hat HO BX GX NX HBj
                  obtain ⟨A36, c36, e36⟩ := Kd.R_slice HO2.out
                  subst e36
                  refine hK.out _ _ (pw_cell_below HBk.out hHd.out) (fun hHeld => ?_)
                  clear hK K
                  refine norm_ (a' := ?_) ?_ ?_
                  rotate_left
                  · show Act.put _ (some 36) _ = _
                    simp only [Act.put, List.setIfInBounds_toArray, List.set_cons_zero, List.set_cons_succ, i64_w, i32_w]
                    rfl
                  have hcall := IH.out k1 (by have := HKk.out; omega) st1 (l ++ [x]) b1 st2 w7 (.slice A36 (l ++ [x]).length c36) A1.out (Nat.le_trans HN.out (below_size HBk.out)) (blk_below (g := B1) H1.out HBk.out) (blk_below (g := B2) H2.out HBk.out) (blk_below (g := B3) H3.out HBk.out) (blk_below (g := B4) H4.out HBk.out) (HRs.out _ _ _ HR.out HBk.out) (Kd.R_lower HO2.out HN.out)
                  refine one_ (i := 6) (N := some 37) #[true, true, true, true, true, true, true, false] rfl rfl (by kernel_rfl) (by decide) (fun K hK => ?_)
                  refine call_ 55 #[.slice A36 (l ++ [x]).length c36, .pointer (some ⟨B1, 0, none⟩), .pointer (some ⟨B2, 0, none⟩), .pointer (some ⟨B3, 0, none⟩), .pointer (some ⟨B4, 0, none⟩)] (by rfl) rfl (by have he := eg1 #[.slice A36 (l ++ [x]).length c36, .pointer (some ⟨B1, 0, none⟩), .pointer (some ⟨B2, 0, none⟩), .pointer (some ⟨B3, 0, none⟩), .pointer (some ⟨B4, 0, none⟩)] w7; unfold execOp; simp [resolve, Deferred.ofValue, invoke, Act.eval, he]) ?_
                  refine hcall.mono ?_
                  clear hcall
                  rintro e w9 ⟨rfl, hr9, hk9⟩
                  refine ⟨_, rfl, ?_⟩
                  have M1 := Aside0.mk (blk_kept (blk_below (g := B1) H1.out HBk.out) hk9.2 (fun h9 => HNE.out.1 h9))
                  have M2 := Aside0.mk (blk_kept (blk_below (g := B2) H2.out HBk.out) hk9.2 (fun h9 => HNE.out.2.1 h9))
                  have M3 := Aside0.mk (blk_kept (blk_below (g := B3) H3.out HBk.out) hk9.2 (fun h9 => HNE.out.2.2.1 h9))
                  have M4 := Aside0.mk (blk_kept (blk_below (g := B4) H4.out HBk.out) hk9.2 (fun h9 => HNE.out.2.2.2 h9))
                  have ML := Aside0.mk (impl_notFalling.keepR (Kd.R_below HL.out HBk.out) hk9 HG.out)
                  have MR := Aside0.mk hr9
                  have MN := Aside0.mk (Nat.le_trans HN.out (Nat.le_trans (below_size HBk.out) hk9.2.1))
                  have MK := Aside0.mk ((HK.out.below HBk.out).trans hk9)
                  clear H1 H2 H3 H4 HL HR HN HK HBk HO2 hr9 hk9 HBr
                  refine hK.out _ _ ((blk_cell M4.out 0).trans rfl) (fun hHeld => ?_)
                  clear hK K
                  refine norm_ (a' := ?_) ?_ ?_
                  rotate_left
                  · show Act.put _ (some 37) _ = _
                    simp only [Act.put, List.setIfInBounds_toArray, List.set_cons_zero, List.set_cons_succ, i64_w, i32_w]
                    rfl
                  refine pure_ (i := 7) (N := some 38) (v := ?_) (a' := ?_) #[true, true, true, true, true, true, true, true] rfl rfl (by kernel_rfl) (fun _ _ _ h => h) (Or.inl ⟨by rfl, ?_⟩) ?_ ?_
                  rotate_left
                  · intro w'
                    go_simp
                    with_reducible rfl
                  rotate_left
                  · simp only [Act.put, List.setIfInBounds_toArray, List.set_cons_zero, List.set_cons_succ, i64_w, i32_w]
                    rfl
                  refine done_ (by kernel_rfl) ?_
                  clear hlt hC hHeld hHd
                  cases b1 with
                  | false =>
                    have H := HH.out
                    simp only [Bool.false_eq_true, if_false, Option.some.injEq, Prod.mk.injEq] at H
                    obtain ⟨rfl, rfl⟩ := H
                    go_wp2
                    go_ret
                    exact ⟨rfl, MR.out, MK.out⟩
                  | true =>
                    have H := HH.out
                    simp only [if_true] at H
                    have HH := Aside0.mk H
                    clear H
                    go_wp2
                    go_roundg k1
                    case measure => have := HKk.out; omega
                    case rel => exact ⟨_, st2, rfl, HH, ⟨by have := HKk.out; omega⟩, MN, M1, M2, M3, M4, MR, ML, MK⟩
                · rw [if_neg hx] at H
                  have hx2 : decide (x ≤ most) = false := decide_eq_false hx
                  clear hx
                  simp only [Option.some.injEq, Prod.mk.injEq] at H
                  obtain ⟨rfl, rfl⟩ := H
                  go_wp2
                  go_ret
                  exact ⟨rfl, HR.out, HK.out⟩
        · rw [if_neg hlt] at h
          cases h
set_option maxHeartbeats 8000000 in
set_option maxRecDepth 100000 in
theorem impl_notFalling.calls {σ : Type} (E : σ → List Int → Option (Bool × σ)) (many most : Int) (g : Nat) (lb : Array Value) (G : Nat) (R : σ → World → Prop) (k : Nat) (st : σ) (b : Bool) (st' : σ) (w : World)
    (eg : ∀ args w, (callFunc g args).run Try.prog w = .ok (.enter g args) w) (hG : G < w.heap.size) (hR : ∀ st w w', R st w → Below w.heap.size w w' → R st w')
    (hE : ∀ st l b st' w1 v, (l.length : Int) = many → E st l = some (b, st') → R st w1 → w.heap.size ≤ w1.heap.size → Kd.R (Kd.int .i64) 3 w1 w.heap.size (fun _ => True) v l → Calls Try.prog g (#[v] ++ lb) w1 fun e w' => e = .returned (.bool b) ∧ R st' w' ∧ impl_notFalling.Kp G w1 w')
    (hr : R st w) (h : impl_notFalling.go E many most k none st [] = some (b, st')) :
    Calls Try.prog 38 #[.int .i64 many, .int .i64 most, .func (.func g) #[] lb] w fun e w' => e = .returned (.tuple #[]) ∧ R st' w' ∧ impl_notFalling.Kp G w w' := by
  have eg1 : ∀ args w, (callFunc 55 args).run Try.prog w = .ok (.enter 55 args) w := enters_of Try.func55 (by kernel_rfl) rfl
  have HG := Aside0.mk hG
  have HRs := Aside0.mk hR
  have HE := Aside0.mk hE
  have HR := Aside0.mk hr
  have HH := Aside0.mk h
  clear hG hR hE hr h
  have HB := Aside0.mk (Below.refl w.heap.size w)
  go_enter Try.func38, Try.ntmps38
  go_upto_region 2 with (first | ((with_reducible refine gate_dst (N := 3) rfl ?_); refine box_event ?hg (N := 3) ?hd (cs := #[.int .i64 many]) (t := 3) ?hr ?_; (case hd => rfl); (case hg => rfl); (case hr => first | (go_simp; done) | (go_simp; rfl)); intro g1 hg w1 hbox hb;  have X1 := Aside0.mk hbox; have GX1 := Aside0.mk ((by rw [hg]; exact below_size HB.out) : w.heap.size ≤ g1); replace HB := Aside0.mk (below_step HB.out hb); clear hb hbox hg) | ((with_reducible refine gate_dst (N := 4) rfl ?_); refine box_event ?hg (N := 4) ?hd (cs := #[.int .i64 most]) (t := 3) ?hr ?_; (case hd => rfl); (case hg => rfl); (case hr => first | (go_simp; done) | (go_simp; rfl)); intro g2 hg w2 hbox hb;  have X2 := Aside0.mk hbox; have GX2 := Aside0.mk ((by rw [hg]; exact below_size HB.out) : w.heap.size ≤ g2); have nX2X1_ := Aside0.mk (Nat.ne_of_lt (Nat.lt_of_lt_of_le (blk_lt X1.out) (Nat.le_of_eq hg.symm)) : g1 ≠ g2); replace X1 := Aside0.mk (blk_below (g := g1) X1.out hb); replace HB := Aside0.mk (below_step HB.out hb); clear hb hbox hg) | ((with_reducible refine gate_dst (N := 5) rfl ?_); refine box_event ?hg (N := 5) ?hd (cs := #[.func (.func g) #[] lb]) (t := 38) ?hr ?_; (case hd => rfl); (case hg => rfl); (case hr => first | (go_simp; done) | (go_simp; rfl)); intro g3 hg w3 hbox hb;  have X3 := Aside0.mk hbox; have GX3 := Aside0.mk ((by rw [hg]; exact below_size HB.out) : w.heap.size ≤ g3); have nX3X1_ := Aside0.mk (Nat.ne_of_lt (Nat.lt_of_lt_of_le (blk_lt X1.out) (Nat.le_of_eq hg.symm)) : g1 ≠ g3); replace X1 := Aside0.mk (blk_below (g := g1) X1.out hb); have nX3X2_ := Aside0.mk (Nat.ne_of_lt (Nat.lt_of_lt_of_le (blk_lt X2.out) (Nat.le_of_eq hg.symm)) : g2 ≠ g3); replace X2 := Aside0.mk (blk_below (g := g2) X2.out hb); replace HB := Aside0.mk (below_step HB.out hb); clear hb hbox hg) | ((with_reducible refine gate_dst (N := 6) rfl ?_); refine box_event ?hg (N := 6) ?hd (cs := #[.nilFunc]) (t := 38) ?hr ?_; (case hd => rfl); (case hg => rfl); (case hr => first | (go_simp; done) | (go_simp; rfl)); intro g4 hg w4 hbox hb;  have X4 := Aside0.mk hbox; have GX4 := Aside0.mk ((by rw [hg]; exact below_size HB.out) : w.heap.size ≤ g4); have nX4X1_ := Aside0.mk (Nat.ne_of_lt (Nat.lt_of_lt_of_le (blk_lt X1.out) (Nat.le_of_eq hg.symm)) : g1 ≠ g4); replace X1 := Aside0.mk (blk_below (g := g1) X1.out hb); have nX4X2_ := Aside0.mk (Nat.ne_of_lt (Nat.lt_of_lt_of_le (blk_lt X2.out) (Nat.le_of_eq hg.symm)) : g2 ≠ g4); replace X2 := Aside0.mk (blk_below (g := g2) X2.out hb); have nX4X3_ := Aside0.mk (Nat.ne_of_lt (Nat.lt_of_lt_of_le (blk_lt X3.out) (Nat.le_of_eq hg.symm)) : g3 ≠ g4); replace X3 := Aside0.mk (blk_below (g := g3) X3.out hb); replace HB := Aside0.mk (below_step HB.out hb); clear hb hbox hg))
  (try simp only [Act.put, List.setIfInBounds_toArray, List.set_cons_zero, List.set_cons_succ])
  have hz : w4.cell? ⟨g4, 0, none⟩ = some .nilFunc := (blk_cell X4.out 0).trans rfl
  have hf := blk_frozen X4.out 0
  have hS : Below w.heap.size w (w4.setCell ⟨g4, 0, none⟩ (.func (.func 55) #[] #[.pointer (some ⟨g1, 0, none⟩), .pointer (some ⟨g3, 0, none⟩), .pointer (some ⟨g2, 0, none⟩), .pointer (some ⟨g4, 0, none⟩)])) := below_set HB.out GX4.out
  have hon := impl_notFalling.on E many most g lb G g1 g3 g2 g4 w.heap.size R eg (by have := HG.out; have := GX1.out; have := GX2.out; have := GX3.out; have := GX4.out; omega) HG.out HRs.out HE.out k st [] b st' _ (.slice none 0 0) HH.out hS.size (blk_far X1.out (fun e_ => nX4X1_.out e_) _) (blk_far X3.out (fun e_ => nX4X3_.out e_) _) (blk_far X2.out (fun e_ => nX4X2_.out e_) _) (by have h9 := blk_put (cs := #[.nilFunc]) X4.out 0 (.func (.func 55) #[] #[.pointer (some ⟨g1, 0, none⟩), .pointer (some ⟨g3, 0, none⟩), .pointer (some ⟨g2, 0, none⟩), .pointer (some ⟨g4, 0, none⟩)]) rfl; exact h9) (HRs.out _ _ _ HR.out hS) (Kd.R_nil _ _ _ _ _)
  have HS := Aside0.mk hS
  clear hS
  have hz5 : (w4.setCell ⟨g4, 0, none⟩ (.func (.func 55) #[] #[.pointer (some ⟨g1, 0, none⟩), .pointer (some ⟨g3, 0, none⟩), .pointer (some ⟨g2, 0, none⟩), .pointer (some ⟨g4, 0, none⟩)])).cell? ⟨g4, 0, none⟩ = some (.func (.func 55) #[] #[.pointer (some ⟨g1, 0, none⟩), .pointer (some ⟨g3, 0, none⟩), .pointer (some ⟨g2, 0, none⟩), .pointer (some ⟨g4, 0, none⟩)]) := World.cell?_setCell_same' _ _ _ (by rw [hz]; rfl)
  go_wp2_with (go_at_fn 55; refine hon.mono ?_; rintro e w9 ⟨rfl, hr9, hk9⟩)
  go_end0
  exact ⟨rfl, hr9, (impl_notFalling.Kp.of_below HS.out).trans hk9⟩

/-! ### impl_CountPairLists: function 18 -/
def impl_CountPairLists.E (k : Nat) (total : Int) (st : Int) (l : List Int) : Option (Bool × Int) := (impl_pairTime.f k l).bind fun t => some (true, wrap64 (st + (if (t == total) = true then 1 else 0)))
def impl_CountPairLists.f (k : Nat) (a0 a1 a2 : Int) : Option (Int × Bool) := (impl_isAsked.f a0 a1 a2).bind fun t => if t = true then (impl_notFalling.go (impl_CountPairLists.E k a2) a0 a1 k none 0 []).bind fun p => some (p.2, true) else some (0, false)
theorem impl_CountPairLists.bit (b : Bool) (w : World) : Calls Try.prog 40 #[.bool b] w fun e w' => e = .returned (.int .i64 (if b = true then 1 else 0)) ∧ Below w.heap.size w w' := by
  have HB := Aside0.mk (Below.refl w.heap.size w)
  cases b with
  | false =>
    go_enter Try.func40, Try.ntmps40
    go_wp2
    go_ret
    exact ⟨rfl, HB.out⟩
  | true =>
    go_enter Try.func40, Try.ntmps40
    go_wp2
    go_ret
    exact ⟨rfl, HB.out⟩
set_option maxHeartbeats 8000000 in
set_option maxRecDepth 100000 in
theorem impl_CountPairLists.each (k : Nat) (total st : Int) (l : List Int) (t : Int) (G B5 N0 : Nat) (v : Value) (w : World) (hne : B5 ≠ G) (h : impl_pairTime.f k l = some t) (hg : w.heap[G]? = some (.cells #[.int .i64 st] 3 (0, 0))) (ht : w.heap[B5]? = some (.cells #[.int .i64 total] 3 (0, 0))) (hl : Kd.R (Kd.int .i64) 3 w N0 (fun _ => True) v l) :
    Calls Try.prog 39 (#[v] ++ #[.pointer (some ⟨G, 0, none⟩), .pointer (some ⟨B5, 0, none⟩)]) w fun e w' => e = .returned (.bool true) ∧ (w'.heap[G]? = some (.cells #[.int .i64 (wrap64 (st + (if (t == total) = true then 1 else 0)))] 3 (0, 0)) ∧ w'.heap[B5]? = some (.cells #[.int .i64 total] 3 (0, 0))) ∧ impl_notFalling.Kp G w w' := by
  obtain ⟨A, c, rfl⟩ := Kd.R_slice hl
  show Calls Try.prog 39 #[.slice A l.length c, .pointer (some ⟨G, 0, none⟩), .pointer (some ⟨B5, 0, none⟩)] w _
  obtain ⟨q, hq⟩ : ∃ q, q = (if (t == total) = true then (1 : Int) else 0) := ⟨_, rfl⟩
  rw [← hq]
  have HQ := Aside0.mk hq
  have HP := Aside0.mk h
  have HNE := Aside0.mk hne
  have HG := Aside0.mk (blk_drew hg)
  have HT := Aside0.mk (blk_drew ht)
  have HL := Aside0.mk (Kd.R_drew hl)
  have HBr := Aside0.mk (below_drew1 (Below.refl w.heap.size w))
  clear hq h hne hg ht hl
  go_enter Try.func39, Try.ntmps39
  try go_wp2
  refine start_ (n := 8) (S := fun w' => w'.cell? ⟨G, 0, none⟩ = some (.int .i64 st) ∧ w'.cell? ⟨B5, 0, none⟩ = some (.int .i64 total)) (ds := [7]) #[false, false, false, false, false, false, false, false] (by kernel_rfl) rfl rfl ⟨(blk_cell HG.out 0).trans rfl, (blk_cell HT.out 0).trans rfl⟩ (fun hHeld => ?_)
  generalize w.drew = wd at HG HT HL HBr hHeld ⊢
  refine take_ (i := 0) (N := some 5) (v := ?_) (a' := ?_) #[true, false, false, false, false, false, false, false] rfl rfl (by kernel_rfl) (fun _ _ _ h => h) (Or.inl ⟨by rfl, ?_⟩) hHeld ?_ ?_
  rotate_left
  · rintro w' ⟨s0, s1⟩
    go_simp
    with_reducible rfl
  rotate_left
  · simp only [Act.put, List.setIfInBounds_toArray, List.set_cons_zero, List.set_cons_succ, i64_w, i32_w]
    rfl
  refine pure_ (i := 1) (N := some 6) (v := ?_) (a' := ?_) #[true, true, false, false, false, false, false, false] rfl rfl (by kernel_rfl) (fun _ _ _ h => h) (Or.inl ⟨by rfl, ?_⟩) ?_ ?_
  rotate_left
  · intro w'
    go_simp
    with_reducible rfl
  rotate_left
  · simp only [Act.put, List.setIfInBounds_toArray, List.set_cons_zero, List.set_cons_succ, i64_w, i32_w]
    rfl
  refine take_ (i := 3) (N := some 8) (v := ?_) (a' := ?_) #[true, true, false, true, false, false, false, false] rfl rfl (by kernel_rfl) (fun _ _ _ h => h) (Or.inl ⟨by rfl, ?_⟩) hHeld ?_ ?_
  rotate_left
  · rintro w' ⟨s0, s1⟩
    go_simp
    with_reducible rfl
  rotate_left
  · simp only [Act.put, List.setIfInBounds_toArray, List.set_cons_zero, List.set_cons_succ, i64_w, i32_w]
    rfl
  refine one_ (i := 2) (N := some 7) #[true, true, true, true, false, false, false, false] rfl rfl (by kernel_rfl) (by decide) (fun K hK => ?_)
  refine goes_ Try.func28 (by kernel_rfl) rfl #[.slice A l.length c] (by rfl) rfl rfl (by (try simp only [List.map_toArray, List.map_cons, List.map_nil]); first | done | rfl) ?_
  refine (impl_pairTime.calls k A c l t _ (Kd.R_reads' HL.out).2.2 (Kd.R_reads' HL.out).2.1 HP.out).mono ?_
  rintro e wa ⟨rfl, hb⟩
  refine ⟨_, rfl, ?_⟩
  replace HG := Aside0.mk (blk_below (g := G) HG.out hb)
  replace HT := Aside0.mk (blk_below (g := B5) HT.out hb)
  replace HBr := Aside0.mk (below_step HBr.out hb)
  clear hb
  refine hK.out _ _ ⟨(blk_cell HG.out 0).trans rfl, (blk_cell HT.out 0).trans rfl⟩ (fun hHeld => ?_)
  clear hK K
  refine norm_ (a' := ?_) ?_ ?_
  rotate_left
  · show Act.put _ (some 7) _ = _
    simp only [Act.put, List.setIfInBounds_toArray, List.set_cons_zero, List.set_cons_succ, i64_w, i32_w]
    rfl
  refine pure_ (i := 4) (N := some 9) (v := ?_) (a' := ?_) #[true, true, true, true, true, false, false, false] rfl rfl (by kernel_rfl) (fun _ _ _ h => h) (Or.inl ⟨by rfl, ?_⟩) ?_ ?_
  rotate_left
  · intro w'
    go_simp
    with_reducible rfl
  rotate_left
  · simp only [Act.put, List.setIfInBounds_toArray, List.set_cons_zero, List.set_cons_succ, i64_w, i32_w]
    rfl
  refine one_ (i := 5) (N := some 10) #[true, true, true, true, true, true, false, false] rfl rfl (by kernel_rfl) (by decide) (fun K hK => ?_)
  refine goes_ Try.func40 (by kernel_rfl) rfl #[.bool (t == total)] (by rfl) rfl rfl (by (try simp only [List.map_toArray, List.map_cons, List.map_nil]); first | done | rfl) ?_
  have hbit := impl_CountPairLists.bit (t == total) wa
  rw [← HQ.out] at hbit
  refine hbit.mono ?_
  clear hbit
  rintro e wb ⟨rfl, hb⟩
  refine ⟨_, rfl, ?_⟩
  replace HG := Aside0.mk (blk_below (g := G) HG.out hb)
  replace HT := Aside0.mk (blk_below (g := B5) HT.out hb)
  replace HBr := Aside0.mk (below_step HBr.out hb)
  clear hb
  refine hK.out _ _ ⟨(blk_cell HG.out 0).trans rfl, (blk_cell HT.out 0).trans rfl⟩ (fun hHeld => ?_)
  clear hK K
  refine norm_ (a' := ?_) ?_ ?_
  rotate_left
  · show Act.put _ (some 10) _ = _
    simp only [Act.put, List.setIfInBounds_toArray, List.set_cons_zero, List.set_cons_succ, i64_w, i32_w]
    rfl
  refine pure_ (i := 6) (N := some 11) (v := ?_) (a' := ?_) #[true, true, true, true, true, true, true, false] rfl rfl (by kernel_rfl) (fun _ _ _ h => h) (Or.inl ⟨by rfl, ?_⟩) ?_ ?_
  rotate_left
  · intro w'
    go_simp
    with_reducible rfl
  rotate_left
  · simp only [Act.put, List.setIfInBounds_toArray, List.set_cons_zero, List.set_cons_succ, i64_w, i32_w]
    rfl
  have hz0 : wb.cell? ⟨G, 0, none⟩ = some (.int .i64 st) := (blk_cell HG.out 0).trans rfl
  have hf0 := blk_frozen HG.out 0
  refine last_ (i := 7) (N := none) #[true, true, true, true, true, true, true, true] rfl rfl (by kernel_rfl) (by decide) (fun K hK => ?_)
  refine skip_ (w1 := ?_) (by rfl) rfl ?_ ?_
  rotate_left
  · go_simp
    rfl
  refine hK.out _ _ ?_
  clear hK K
  refine done_ (by kernel_rfl) ?_
  go_wp2
  go_ret
  refine ⟨rfl, ⟨blk_put (cs := #[.int .i64 st]) HG.out 0 _ rfl, blk_far HT.out HNE.out _⟩, (impl_notFalling.Kp.of_below HBr.out).set _⟩
set_option maxHeartbeats 8000000 in
set_option maxRecDepth 100000 in
theorem impl_CountPairLists.calls (k : Nat) (a0 : Int) (a1 : Int) (a2 : Int) (r1 : Int) (r2 : Bool) (w : World) (h : impl_CountPairLists.f k a0 a1 a2 = some (r1, r2)) :
    Calls Try.prog 18 #[.int .i64 a0, .int .i64 a1, .int .i64 a2] w fun e w' => e = .returned (.tuple #[.int .i64 r1, .bool r2]) ∧ Below w.heap.size w w' := by
  have HB := Aside0.mk (Below.refl w.heap.size w)
  have H : ((impl_isAsked.f a0 a1 a2).bind fun t => if t = true then (impl_notFalling.go (impl_CountPairLists.E k a2) a0 a1 k none 0 []).bind fun p => some (p.2, true) else some (0, false)) = some (r1, r2) := h
  clear h
  obtain ⟨t, A20, H⟩ := Option.bind_eq_some_iff.mp H
  have A2 := Aside0.mk A20
  clear A20
  have HH := Aside0.mk H
  clear H
  go_enter Try.func18, Try.ntmps18
  go_upto_region 1 with (first | ((with_reducible refine gate_dst (N := 5) rfl ?_); refine box_event ?hg (N := 5) ?hd (cs := #[.int .i64 a2]) (t := 3) ?hr ?_; (case hd => rfl); (case hg => rfl); (case hr => first | (go_simp; done) | (go_simp; rfl)); intro g5 hg w1 hbox hb; have X5 := Aside0.mk hbox; have GX5 := Aside0.mk ((by rw [hg]; exact below_size HB.out) : w.heap.size ≤ g5); replace HB := Aside0.mk (below_step HB.out hb); clear hb hbox hg))
  (try simp only [Act.put, List.setIfInBounds_toArray, List.set_cons_zero, List.set_cons_succ])
  have hz5 : w1.cell? ⟨g5, 0, none⟩ = some (.int .i64 a2) := (blk_cell X5.out 0).trans rfl
  cases t with
  | false =>
    have H := HH.out
    simp only [Bool.false_eq_true, if_false, Option.some.injEq, Prod.mk.injEq] at H
    obtain ⟨rfl, rfl⟩ := H
    go_wp2_with (go_at_call 37; refine (impl_isAsked.calls a0 a1 a2 false _ A2.out).mono ?_; rintro e w5 ⟨rfl, hd⟩; have hb := hd.below; clear hd; replace HB := Aside0.mk (below_step HB.out hb); clear hb hz5)
    go_ret2
    exact ⟨rfl, HB.out⟩
  | true =>
    have H := HH.out
    simp only [if_true] at H
    obtain ⟨⟨b9, n9⟩, A30, H⟩ := Option.bind_eq_some_iff.mp H
    have A3 := Aside0.mk A30
    clear A30
    simp only [Option.some.injEq, Prod.mk.injEq] at H
    obtain ⟨rfl, rfl⟩ := H
    clear HH
    go_wp2_with (first | (go_at_call 37; refine (impl_isAsked.calls a0 a1 a2 true _ A2.out).mono ?_; rintro e w5 ⟨rfl, hd⟩; have hb := hd.below; clear hd; replace X5 := Aside0.mk (blk_below (g := g5) X5.out hb); replace HB := Aside0.mk (below_step HB.out hb); clear hb hz5) | ((with_reducible refine gate_dst (N := 8) rfl ?_); refine box_event ?hg (N := 8) ?hd (cs := #[.int .i64 0]) (t := 3) ?hr ?_; (case hd => rfl); (case hg => rfl); (case hr => first | (go_simp; done) | (go_simp; rfl)); intro g8 hg w6 hbox hb; have X8 := Aside0.mk hbox; have GX8 := Aside0.mk ((by rw [hg]; exact below_size HB.out) : w.heap.size ≤ g8); have nX8X5_ := Aside0.mk (Nat.ne_of_lt (Nat.lt_of_lt_of_le (blk_lt X5.out) (Nat.le_of_eq hg.symm)) : g5 ≠ g8); replace X5 := Aside0.mk (blk_below (g := g5) X5.out hb); replace HB := Aside0.mk (below_step HB.out hb); clear hb hbox hg; have hz8 : w6.cell? ⟨g8, 0, none⟩ = some (.int .i64 0) := (blk_cell X8.out 0).trans rfl; have hf8 := blk_frozen X8.out 0))
    have eg : ∀ args w, (callFunc 39 args).run Try.prog w = .ok (.enter 39 args) w := enters_of Try.func39 (by kernel_rfl) rfl
    have X9 := Aside0.mk (blk_put (cs := #[.int .i64 0]) X8.out 0 (.int .i64 0) rfl)
    have X6 := Aside0.mk (blk_far X5.out (p := ⟨g8, 0, none⟩) (fun e_ => nX8X5_.out e_) (.int .i64 0))
    have HB6 := Aside0.mk (below_set (j := 0) (v := .int .i64 0) HB.out GX8.out)
    have hall : ∀ W, W = w6.setCell ⟨g8, 0, none⟩ (.int .i64 0) → Calls Try.prog 38 #[.int .i64 a0, .int .i64 a1, .func (.func 39) #[] #[.pointer (some ⟨g8, 0, none⟩), .pointer (some ⟨g5, 0, none⟩)]] W fun e w' => e = .returned (.tuple #[]) ∧ (w'.heap[g8]? = some (.cells #[.int .i64 n9] 3 (0, 0)) ∧ w'.heap[g5]? = some (.cells #[.int .i64 a2] 3 (0, 0))) ∧ impl_notFalling.Kp g8 W w' := by
      rintro W rfl
      exact impl_notFalling.calls (impl_CountPairLists.E k a2) a0 a1 39 #[.pointer (some ⟨g8, 0, none⟩), .pointer (some ⟨g5, 0, none⟩)] g8 (fun st W => W.heap[g8]? = some (.cells #[.int .i64 st] 3 (0, 0)) ∧ W.heap[g5]? = some (.cells #[.int .i64 a2] 3 (0, 0))) k 0 b9 n9 _ eg (blk_lt X9.out)
        (fun st w w' hs hb => ⟨blk_below (g := g8) hs.1 hb, blk_below (g := g5) hs.2 hb⟩)
        (fun st l b st' w1 v _ hE hs _ hl => by
          obtain ⟨t, ht, h2⟩ := Option.bind_eq_some_iff.mp hE
          simp only [Option.some.injEq, Prod.mk.injEq] at h2
          obtain ⟨rfl, rfl⟩ := h2
          exact impl_CountPairLists.each k a2 st l t g8 g5 _ v w1 nX8X5_.out ht hs.1 hs.2 hl)
        ⟨X9.out, X6.out⟩ A3.out
    have HA := Aside0.mk hall
    clear hall
    go_wp2_with (go_at_call 38; refine (HA.out _ rfl).mono ?_; rintro e w9 ⟨rfl, hs9, hk9⟩; have hz9 : w9.cell? ⟨g8, 0, none⟩ = some (.int .i64 n9) := (blk_cell hs9.1 0).trans rfl)
    go_ret2
    exact ⟨rfl, impl_notFalling.back HB6.out hk9 GX8.out⟩

/-! ### spec_prAsked: function 41 -/
def spec_prAsked.f (a0 : Int) (a1 : Int) (a2 : Int) : Option (Bool) := (spec_l1In.f a0 1 4).bind fun t337 => (if t337 = true then ((spec_l1In.f a1 1 12).bind fun t338 => (if t338 = true then ((spec_l1In.f a2 0 1000).bind fun t339 => (some t339)) else (some false))) else (some false))
set_option maxHeartbeats 8000000 in
set_option maxRecDepth 100000 in
theorem spec_prAsked.calls (a0 : Int) (a1 : Int) (a2 : Int) (r : Bool) (w : World) (h : spec_prAsked.f a0 a1 a2 = some r) :
    Calls Try.prog 41 #[.int .i64 a0, .int .i64 a1, .int .i64 a2] w fun e w' => e = .returned (.bool r) ∧ Drawn0 w w' := by
  have H : ((spec_l1In.f a0 1 4).bind fun t337 => (if t337 = true then ((spec_l1In.f a1 1 12).bind fun t338 => (if t338 = true then ((spec_l1In.f a2 0 1000).bind fun t339 => (some t339)) else (some false))) else (some false))) = some r := h
  clear h
  replace H := Option.bind_eq_some_iff.mp H
  obtain ⟨t337, A40, H⟩ := H
  replace H : (if t337 = true then ((spec_l1In.f a1 1 12).bind fun t338 => (if t338 = true then ((spec_l1In.f a2 0 1000).bind fun t339 => (some t339)) else (some false))) else (some false)) = some r := H
  have A4 := Aside0.mk A40
  clear A40
  by_cases c5 : t337 = true
  · subst c5
    have H1 : ((spec_l1In.f a1 1 12).bind fun t338 => (if t338 = true then ((spec_l1In.f a2 0 1000).bind fun t339 => (some t339)) else (some false))) = some r := by rw [if_pos rfl] at H; exact H
    clear H
    have H := H1
    clear H1
    replace H := Option.bind_eq_some_iff.mp H
    obtain ⟨t338, A60, H⟩ := H
    replace H : (if t338 = true then ((spec_l1In.f a2 0 1000).bind fun t339 => (some t339)) else (some false)) = some r := H
    have A6 := Aside0.mk A60
    clear A60
    by_cases c7 : t338 = true
    · subst c7
      have H1 : ((spec_l1In.f a2 0 1000).bind fun t339 => (some t339)) = some r := by rw [if_pos rfl] at H; exact H
      clear H
      have H := H1
      clear H1
      replace H := Option.bind_eq_some_iff.mp H
      obtain ⟨t339, A80, H⟩ := H
      replace H : (some t339) = some r := H
      have A8 := Aside0.mk A80
      clear A80
      obtain rfl := Option.some.inj H
      go_enter Try.func41, Try.ntmps41
      go_wp2_with (first | ((with_reducible refine gate_callee (f := 30) rfl ?_); refine goesL_ (some 8) rfl rfl Try.func30 (by kernel_rfl) rfl #[.int .i64 a0, .int .i64 1, .int .i64 4] rfl (by (try simp only [List.map_toArray, List.map_cons, List.map_nil]); first | done | rfl | (simp only [List.length_drop, List.length_take]; rfl)) ?_; (with_reducible refine (spec_l1In.calls a0 1 4 true _ A4.out).mono ?_); rintro e w' ⟨rfl, ⟨nd, rfl⟩⟩; refine ⟨_, rfl, ?_⟩) | (go_at_call 30; (with_reducible refine (spec_l1In.calls a1 1 12 true _ A6.out).mono ?_); rintro e w' ⟨rfl, ⟨nd, rfl⟩⟩) | (go_at_call 30; (with_reducible refine (spec_l1In.calls a2 0 1000 t339 _ A8.out).mono ?_); rintro e w' ⟨rfl, ⟨nd, rfl⟩⟩))
      go_ret
      exact ⟨by first | rfl | (simp; done) | (simp [*]; done), by repeat (first | exact Drawn0.refl _ | apply Drawn0.step)⟩
    · replace c7 := Bool.eq_false_iff.mpr c7
      subst c7
      have H1 : (some false) = some r := by rw [if_neg (show ¬ (false = true) by decide)] at H; exact H
      clear H
      have H := H1
      clear H1
      obtain rfl := Option.some.inj H
      go_enter Try.func41, Try.ntmps41
      go_wp2_with (first | ((with_reducible refine gate_callee (f := 30) rfl ?_); refine goesL_ (some 8) rfl rfl Try.func30 (by kernel_rfl) rfl #[.int .i64 a0, .int .i64 1, .int .i64 4] rfl (by (try simp only [List.map_toArray, List.map_cons, List.map_nil]); first | done | rfl | (simp only [List.length_drop, List.length_take]; rfl)) ?_; (with_reducible refine (spec_l1In.calls a0 1 4 true _ A4.out).mono ?_); rintro e w' ⟨rfl, ⟨nd, rfl⟩⟩; refine ⟨_, rfl, ?_⟩) | (go_at_call 30; (with_reducible refine (spec_l1In.calls a1 1 12 false _ A6.out).mono ?_); rintro e w' ⟨rfl, ⟨nd, rfl⟩⟩))
      go_ret
      exact ⟨by first | rfl | (simp; done) | (simp [*]; done), by repeat (first | exact Drawn0.refl _ | apply Drawn0.step)⟩
  · replace c5 := Bool.eq_false_iff.mpr c5
    subst c5
    have H1 : (some false) = some r := by rw [if_neg (show ¬ (false = true) by decide)] at H; exact H
    clear H
    have H := H1
    clear H1
    obtain rfl := Option.some.inj H
    go_enter Try.func41, Try.ntmps41
    go_wp2_with (first | ((with_reducible refine gate_callee (f := 30) rfl ?_); refine goesL_ (some 8) rfl rfl Try.func30 (by kernel_rfl) rfl #[.int .i64 a0, .int .i64 1, .int .i64 4] rfl (by (try simp only [List.map_toArray, List.map_cons, List.map_nil]); first | done | rfl | (simp only [List.length_drop, List.length_take]; rfl)) ?_; (with_reducible refine (spec_l1In.calls a0 1 4 false _ A4.out).mono ?_); rintro e w' ⟨rfl, ⟨nd, rfl⟩⟩; refine ⟨_, rfl, ?_⟩))
    go_ret
    exact ⟨by first | rfl | (simp; done) | (simp [*]; done), by repeat (first | exact Drawn0.refl _ | apply Drawn0.step)⟩

end Go.Proofs.Ytmejodmokogblaa.G
