-- Laid by wip/gprint.py (the session's own program, round the kit's printer) for this claim.
import Derived.Test.YtmejodmokogblaaGFpx0
import Derived.Test.YtmejodmokogblaaGFpx2
import Derived.Test.YtmejodmokogblaaGFpx5
import Derived.Test.YtmejodmokogblaaGFpx6
import Derived.Test.YtmejodmokogblaaGFpx7
namespace Go.Proofs.Ytmejodmokogblaa.G
open Go.RowKit Go.Proofs.YtmejodmokogblaaW.PrintWords Go.Proofs.YtmejodmokogblaaW.PrintLast Go.Proofs.YtmejodmokogblaaW.PrintMore
attribute [local go_sem] max2_int min2_int max_two min_two max_three min_three max_four min_four   -- for this text's walks alone
set_option linter.unusedVariables false
set_option linter.unusedSimpArgs false

/-! ### spec_prLists: function 42 -/
/-- The lists with a time, in their order, behind those that there are. -/
def spec_prLists.go (k0 : Nat) (people most total : Int) : Nat → Option Int → List (List Int) → List Int → Option (List (List Int))
  | 0, _, _, _ => none
  | k + 1, none, st, l => if l.length < 1048576 then (if (l.length : Int) = people then (spec_prTime.f k0 l).bind fun t => if t = total then (if st.length < 1048576 then some (st ++ [l]) else none) else some st else spec_prLists.go k0 people most total k (some (if l.length = 0 then 1 else rd l (wrap64 ((l.length : Int) - 1)))) st l) else none
  | k + 1, some x, st, l => if x ≤ most then (spec_prLists.go k0 people most total k none st (l ++ [x])).bind fun st2 => spec_prLists.go k0 people most total k (some (wrap64 (x + 1))) st2 l else some st
/-- Rows of ints stay as they are. -/
def spec_prLists.Stay (W W' : World) : Prop := ∀ (k : Nat) (cells : Array Value), W.heap[k]? = some (.cells cells 3 (0, 0)) → W'.heap[k]? = W.heap[k]?
theorem spec_prLists.Stay.refl (W : World) : spec_prLists.Stay W W := fun _ _ _ => rfl
theorem spec_prLists.Stay.trans {W W1 W2 : World} (h : spec_prLists.Stay W W1) (k : spec_prLists.Stay W1 W2) : spec_prLists.Stay W W2 := fun g cells hc => (k g cells ((h g cells hc).trans hc)).trans (h g cells hc)
theorem spec_prLists.Stay.of_below {W W1 : World} (h : Below W.heap.size W W1) : spec_prLists.Stay W W1 := fun g _ hc => h.block g (blk_lt hc)
theorem spec_prLists.Stay.set {W : World} {gb j t : Nat} {cs : Array Value} (hb : W.heap[gb]? = some (.cells cs t (0, 0))) (ht : t ≠ 3) (u : Value) : spec_prLists.Stay W (W.setCell ⟨gb, j, none⟩ u) := fun g cells hc => Below.heap_setCell W _ u g (fun he => by
  have he2 : g = gb := he
  subst he2
  rw [hb] at hc
  injection hc with hc
  injection hc with _ hc
  exact ht hc)
theorem spec_prLists.Stay.of_row {W W1 : World} {v : Value} (ht : ∀ k, v.ownBlock = some k → ∃ cells, W.heap[k]? = some (.cells cells 22 (0, 0))) (hg : W.grownBy W1 v.ownBlock) : spec_prLists.Stay W W1 := fun k cells hc => hg.block k (blk_lt hc) (fun he => by
  obtain ⟨c9, h9⟩ := ht k he.symm
  rw [h9] at hc
  injection hc with hc
  injection hc with _ hc
  exact absurd hc (by decide))
theorem spec_prLists.keepR {W W1 : World} {b : Nat} {v : Value} {xs : List Int} (h : Kd.R (Kd.int .i64) 3 W b (fun _ => True) v xs) (hs : spec_prLists.Stay W W1) : Kd.R (Kd.int .i64) 3 W1 b (fun _ => True) v xs :=
  Kd.R_mono (Kd.R_move (Kd.R_bound h) (fun k hk => by
    obtain ⟨_, _, _, q, hq, cells, hc⟩ := hk
    have hq2 : q = 3 := by
      rcases List.mem_cons.1 hq with e | e
      · exact e
      · exact absurd e (by simp [Kd.int, Kd.scalar])
    subst hq2
    exact hs k cells hc)) (fun _ _ => trivial)
theorem spec_prLists.own (l : List Int) (h : l.length < 1048576) : spec_l1Own.f l = some l := by
  unfold spec_l1Own.f
  rw [Option.bind_some, if_pos (by simp; omega), List.nil_append]
theorem spec_prLists.info : (Try.prog.info? 3).map (fun i => (i.zero, i.size, i.bytes)) = some (some (.int .i64 0), 1, 8) := by kernel_rfl
theorem spec_prLists.infoS : (Try.prog.info? 22).map (fun i => (i.zero, i.size, i.bytes)) = some (some (.slice none 0 0), 1, 24) := by kernel_rfl
/-- What the variable holds. -/
def spec_prLists.Out (G N0 : Nat) (st : List (List Int)) (W : World) : Prop := ∃ v : Value, W.heap[G]? = some (.cells #[v] 40 (0, 0)) ∧ Kd.S (Kd.slice 3 (Kd.int .i64)) 22 W N0 (fun _ => True) v st
theorem spec_prLists.Out.below {G N0 : Nat} {st : List (List Int)} {W W' : World} (h : spec_prLists.Out G N0 st W) (hb : Below W.heap.size W W') : spec_prLists.Out G N0 st W' := by
  obtain ⟨v, h1, h2⟩ := h
  exact ⟨v, blk_below (g := G) h1 hb, Kd.S_below h2 hb⟩
set_option maxHeartbeats 8000000 in
set_option maxRecDepth 100000 in
theorem spec_prLists.on (k0 : Nat) (people most total : Int) (G : Nat) (w0 : World) (hGN : w0.heap.size ≤ G) :
    ∀ (k : Nat) (st : List (List Int)) (l : List Int) (st' : List (List Int)) (w : World) (v : Value), spec_prLists.go k0 people most total k none st l = some st' → Below w0.heap.size w0 w → spec_prLists.Out G w0.heap.size st w → Kd.R (Kd.int .i64) 3 w w0.heap.size (fun _ => True) v l →
    Calls Try.prog 42 #[v, .int .i64 people, .int .i64 most, .int .i64 total, .pointer (some ⟨G, 0, none⟩)] w fun e w' => e = .returned (.tuple #[]) ∧ spec_prLists.Out G w0.heap.size st' w' ∧ spec_prLists.Stay w w' ∧ Below w0.heap.size w0 w' := by
  have HGN := Aside0.mk hGN
  clear hGN
  intro k
  induction k using Nat.strongRecOn with
  | _ k ih =>
    intro st l st' w v h hB hO hl
    have IH := Aside0.mk ih
    clear ih
    cases k with
    | zero => simp [spec_prLists.go] at h
    | succ k =>
      obtain ⟨A, c, rfl⟩ := Kd.R_slice hl
      have HL := Aside0.mk hl
      have HB := Aside0.mk hB
      have HO := Aside0.mk hO
      clear hl hB hO
      rw [spec_prLists.go] at h
      by_cases hlt : l.length < 1048576
      case neg =>
        rw [if_neg hlt] at h
        cases h
      rw [if_pos hlt] at h
      have HLB := Aside0.mk hlt
      have HLT := Aside0.mk hlt
      clear hlt
      by_cases hm : (l.length : Int) = people
      · rw [if_pos hm] at h
        obtain ⟨t, A20, h⟩ := Option.bind_eq_some_iff.mp h
        have A2 := Aside0.mk A20
        clear A20 IH
        have hm2 : ((l.length : Int) == people) = true := by simpa using hm
        clear hm
        by_cases ht : t = total
        · rw [if_pos ht] at h
          have ht2 : (t == total) = true := by simpa using ht
          by_cases hst : st.length < 1048576
          · rw [if_pos hst] at h
            have HY := Aside0.mk (Option.some.inj h)
            clear h ht
            have HST := Aside0.mk hst
            clear hst
            go_enter Try.func42, Try.ntmps42
            go_wp2_with (go_at_call 31; refine (spec_prTime.calls k0 A c l t _ (Kd.R_reads' HL.out).2.2 (Kd.R_reads' HL.out).2.1 A2.out).mono ?_; rintro e w5 ⟨rfl, hb⟩; have ST := Aside0.mk (spec_prLists.Stay.of_below hb); replace HO := Aside0.mk (HO.out.below hb); replace HL := Aside0.mk (Kd.R_below HL.out hb); replace HB := Aside0.mk (below_step HB.out hb); clear hb)
            have hlb := HLB.out
            obtain ⟨va, hva, hsa⟩ := HO.out
            have HG := Aside0.mk (blk_drew hva)
            have HS := Aside0.mk (Kd.S_drew hsa)
            clear hva hsa HO
            replace HL := Aside0.mk (Kd.R_drew HL.out)
            replace ST := Aside0.mk (ST.out.trans (spec_prLists.Stay.of_below (below_drew1 (Below.refl w5.heap.size w5))))
            replace HB := Aside0.mk (below_drew1 HB.out)
            refine start_ (n := 10) (S := fun w' => w'.cell? ⟨G, 0, none⟩ = some va) (ds := [9]) #[false, false, false, false, false, false, false, false, false, false] (by kernel_rfl) rfl rfl ((blk_cell HG.out 0).trans rfl) (fun hHeld => ?_)
            generalize w5.drew = wd at HG HS HL HB ST hHeld ⊢
            refine pure_ (i := 0) (N := some 20) (v := ?_) (a' := ?_) #[true, false, false, false, false, false, false, false, false, false] rfl rfl (by kernel_rfl) (fun _ _ _ h => h) (Or.inl ⟨by rfl, ?_⟩) ?_ ?_
            rotate_left
            · intro w'
              go_simp
              with_reducible rfl
            rotate_left
            · simp only [Act.put, List.setIfInBounds_toArray, List.set_cons_zero, List.set_cons_succ, i64_w, i32_w]
              rfl
            refine pure_ (i := 1) (N := some 21) (v := ?_) (a' := ?_) #[true, true, false, false, false, false, false, false, false, false] rfl rfl (by kernel_rfl) (fun _ _ _ h => h) (Or.inl ⟨by rfl, ?_⟩) ?_ ?_
            rotate_left
            · intro w'
              go_simp
              with_reducible rfl
            rotate_left
            · simp only [Act.put, List.setIfInBounds_toArray, List.set_cons_zero, List.set_cons_succ, i64_w, i32_w]
              rfl
            refine pure_ (i := 2) (N := some 22) (v := ?_) (a' := ?_) #[true, true, true, false, false, false, false, false, false, false] rfl rfl (by kernel_rfl) (fun _ _ _ h => h) (Or.inl ⟨by rfl, ?_⟩) ?_ ?_
            rotate_left
            · intro w'
              go_simp
              with_reducible rfl
            rotate_left
            · simp only [Act.put, List.setIfInBounds_toArray, List.set_cons_zero, List.set_cons_succ, i64_w, i32_w]
              rfl
            refine take_ (i := 3) (N := some 23) (v := ?_) (a' := ?_) #[true, true, true, true, false, false, false, false, false, false] rfl rfl (by kernel_rfl) (fun _ _ _ h => h) (Or.inl ⟨by rfl, ?_⟩) hHeld ?_ ?_
            rotate_left
            · rintro w' s0
              go_simp
              with_reducible rfl
            rotate_left
            · simp only [Act.put, List.setIfInBounds_toArray, List.set_cons_zero, List.set_cons_succ, i64_w, i32_w]
              rfl
            refine pure_ (i := 4) (N := some 24) (v := ?_) (a' := ?_) #[true, true, true, true, true, false, false, false, false, false] rfl rfl (by kernel_rfl) (fun _ _ _ h => h) (Or.inl ⟨by rfl, ?_⟩) ?_ ?_
            rotate_left
            · intro w'
              go_simp
              with_reducible rfl
            rotate_left
            · simp only [Act.put, List.setIfInBounds_toArray, List.set_cons_zero, List.set_cons_succ, i64_w, i32_w]
              rfl
            refine one_ (i := 5) (N := some 25) #[true, true, true, true, true, true, false, false, false, false] rfl rfl (by kernel_rfl) (by decide) (fun K hK => ?_)
            refine goes_ Try.func32 (by kernel_rfl) rfl #[.slice A l.length c] (by rfl) rfl rfl (by (try simp only [List.map_toArray, List.map_cons, List.map_nil]); first | done | rfl) ?_
            refine (spec_l1Own.calls A c l l _ (Kd.R_reads' HL.out).2.2 (Kd.R_reads' HL.out).2.1 (spec_prLists.own l HLB.out)).mono ?_
            rintro e wa ⟨v25, rfl, ho, hb⟩
            refine ⟨_, rfl, ?_⟩
            have LT := Aside0.mk (Kd.S_lt HS.out)
            have BS := Aside0.mk (Kd.R_base ho)
            have HS2 := Aside0.mk (Kd.S_mono (ok' := fun k_ => True ∧ ¬ some k_ = v25.ownBlock) (Kd.S_below (Kd.S_mono (ok' := fun k_ => k_ < wd.heap.size) (Kd.S_bound HS.out) (fun _ hk => hk.2.2.1)) hb) (fun k_ hk => ⟨trivial, fun e_ => by have h9 := BS.out k_ e_.symm; omega⟩))
            have HO := Aside0.mk (Kd.R_tight rfl (Kd.R_lower ho (below_size HB.out)))
            replace HG := Aside0.mk (blk_below (g := G) HG.out hb)
            replace HS := Aside0.mk (Kd.S_below HS.out hb)
            replace ST := Aside0.mk (ST.out.trans (spec_prLists.Stay.of_below hb))
            replace HB := Aside0.mk (below_step HB.out hb)
            clear hb ho
            obtain ⟨A25, c25, e25⟩ := Kd.R_slice HO.out
            subst e25
            refine hK.out _ _ ((blk_cell HG.out 0).trans rfl) (fun hHeld => ?_)
            clear hK K
            refine norm_ (a' := ?_) ?_ ?_
            rotate_left
            · show Act.put _ (some 25) _ = _
              simp only [Act.put, List.setIfInBounds_toArray, List.set_cons_zero, List.set_cons_succ, i64_w, i32_w]
              rfl
            refine one_ (i := 6) (N := some 26) #[true, true, true, true, true, true, true, false, false, false] rfl rfl (by kernel_rfl) (by decide) (fun K hK => ?_)
            refine event_step (v := .slice (some ⟨wa.heap.size, 0, none⟩) 1 1) (w1 := wa.alloc (.cells #[.slice A25 l.length c25] 22)) (by rfl) ?hr ?_
            (case hr => first | (go_simp; done) | (go_simp; rfl))
            refine hK.out _ _ (pw_cell_below (below_alloc (Below.refl _ _) _) hHeld) (fun hHeld => ?_)
            clear hK K
            refine norm_ (a' := ?_) ?_ ?_
            rotate_left
            · show Act.put _ (some 26) _ = _
              simp only [Act.put, List.setIfInBounds_toArray, List.set_cons_zero, List.set_cons_succ, i64_w, i32_w]
              rfl
            refine one_ (i := 7) (N := some 27) #[true, true, true, true, true, true, true, true, false, false] rfl rfl (by kernel_rfl) (by decide) (fun K hK => ?_)
            refine Kd.S_append_step (Kd.slice 3 (Kd.int .i64)) (w0 := w0) w0.heap.size (by rfl) (.tmp 23) (.tmp 26) 40 22 (.slice none 0 0) 24 rfl Try.underlying40 spec_prLists.infoS rfl (by decide) (by omega) va st l [.slice A25 l.length c25] (fun _ => True) (fun k_ => some k_ = (.slice A25 l.length c25 : Value).ownBlock) rfl rfl ?aP (fun k_ hk_ => ⟨trivial, fun e_ => by have h9 := LT.out k_ e_.symm; have h8 := BS.out k_ hk_.symm; omega⟩) ?aF ?aO ?aB ?aS ?aL ?_
            (case aP => exact ⟨_, rfl, HO.out⟩)
            (case aF => exact (fun _ _ => trivial))
            (case aO => exact HS2.out)
            (case aB => exact HB.out)
            (case aS => exact below_size HB.out)
            (case aL => have := HST.out; omega)
            intro v27 w7 ho hb hg hat
            rw [HY.out] at ho
            replace ST := Aside0.mk (ST.out.trans (spec_prLists.Stay.of_row (Kd.S_typed HS.out) hg))
            replace HG := Aside0.mk (blk_grown (g := G) HG.out hg (Kd.S_ne HS.out HG.out (by decide)))
            replace HB := Aside0.mk hb
            replace HS := Aside0.mk ho
            clear ho hb hg hat HO LT BS HS2
            refine hK.out _ _ ((blk_cell HG.out 0).trans rfl) (fun hHeld => ?_)
            clear hK K
            refine norm_ (a' := ?_) ?_ ?_
            rotate_left
            · show Act.put _ (some 27) _ = _
              simp only [Act.put, List.setIfInBounds_toArray, List.set_cons_zero, List.set_cons_succ, i64_w, i32_w]
              rfl
            refine pure_ (i := 8) (N := some 28) (v := ?_) (a' := ?_) #[true, true, true, true, true, true, true, true, true, false] rfl rfl (by kernel_rfl) (fun _ _ _ h => h) (Or.inl ⟨by rfl, ?_⟩) ?_ ?_
            rotate_left
            · intro w'
              go_simp
              with_reducible rfl
            rotate_left
            · simp only [Act.put, List.setIfInBounds_toArray, List.set_cons_zero, List.set_cons_succ, i64_w, i32_w]
              rfl
            have hz0 : w7.cell? ⟨G, 0, none⟩ = some va := (blk_cell HG.out 0).trans rfl
            have hf0 := blk_frozen HG.out 0
            obtain ⟨A27, c27, e27⟩ := Kd.S_slice HS.out
            subst e27
            refine last_ (i := 9) (N := none) #[true, true, true, true, true, true, true, true, true, true] rfl rfl (by kernel_rfl) (by decide) (fun K hK => ?_)
            refine skip_ (w1 := ?_) (by rfl) rfl ?_ ?_
            rotate_left
            · go_simp
              rfl
            refine hK.out _ _ ?_
            clear hK K
            refine done_ (by kernel_rfl) ?_
            go_wp2
            (try simp only [Exit.inBlock, Exit.then]); refine bodyPost_ret (results_none rfl _ _ _) rfl ?_
            exact ⟨rfl, ⟨_, blk_put (cs := #[va]) HG.out 0 _ rfl, Kd.S_mono (Kd.S_far (p := ⟨G, 0, none⟩) (Kd.S_types HS.out HG.out (by decide)) (fun _ hk => hk.2) _) (fun _ _ => trivial)⟩, ST.out.trans (spec_prLists.Stay.set HG.out (by decide) _), (HB.out.setCell (p := ⟨G, 0, none⟩) HGN.out _)⟩
          · rw [if_neg hst] at h
            cases h
        · rw [if_neg ht] at h
          have ht2 : (t == total) = false := by simpa using ht
          obtain rfl := Option.some.inj h
          clear h ht
          go_enter Try.func42, Try.ntmps42
          go_wp2_with (go_at_call 31; refine (spec_prTime.calls k0 A c l t _ (Kd.R_reads' HL.out).2.2 (Kd.R_reads' HL.out).2.1 A2.out).mono ?_; rintro e w5 ⟨rfl, hb⟩; have ST := Aside0.mk (spec_prLists.Stay.of_below hb); replace HO := Aside0.mk (HO.out.below hb); replace HB := Aside0.mk (below_step HB.out hb); clear hb)
          (try simp only [Exit.inBlock, Exit.then]); refine bodyPost_ret (results_none rfl _ _ _) rfl ?_
          exact ⟨rfl, HO.out, ST.out, HB.out⟩
      · rw [if_neg hm] at h
        · have hm2 : ((l.length : Int) == people) = false := by simpa using hm
          obtain ⟨x0, hx0⟩ : ∃ x0, x0 = (if l.length = 0 then (1 : Int) else rd l (wrap64 ((l.length : Int) - 1))) := ⟨_, rfl⟩
          rw [← hx0] at h
          have HX := Aside0.mk hx0
          have HH := Aside0.mk h
          have HC := Aside0.mk (Kd.R_reads' HL.out)
          clear hx0 h hm
          by_cases h0 : l.length = 0
          · have hx1 : x0 = 1 := by rw [HX.out, if_pos h0]
            have hd0 : (0 < l.length) = False := eq_false (by omega)
            clear h0 HX
            subst hx1
            go_enter Try.func42, Try.ntmps42
            go_wp2
            clear hm2 hd0
            go_loopg [11] k (fun kq v8 wr => ∃ (x : Int) (st1 : List (List Int)), v8 = .int .i64 x ∧ Aside0 (spec_prLists.go k0 people most total kq (some x) st1 l = some st') ∧ Aside0 (kq ≤ k) ∧ Aside0 (spec_prLists.Out G w0.heap.size st1 wr) ∧ Aside0 (Kd.R (Kd.int .i64) 3 wr w0.heap.size (fun _ => True) (.slice A l.length c) l) ∧ Aside0 (spec_prLists.Stay w wr) ∧ Aside0 (Below w0.heap.size w0 wr))
            case atStart => exact ⟨_, st, rfl, HH, ⟨Nat.le_refl _⟩, HO, HL, ⟨spec_prLists.Stay.refl _⟩, HB⟩
            case round =>
              clear HO HL HB HH HC
              obtain ⟨x, st1, rfl, HA, HKk, HO, HL, HT, HB⟩ := hrel
              cases gk with
              | zero => exact absurd HA.out (by simp [spec_prLists.go])
              | succ k1 =>
                have H := HA.out
                clear HA
                rw [spec_prLists.go] at H
                by_cases hx : x ≤ most
                · rw [if_pos hx] at H
                  obtain ⟨st2, A10, H⟩ := Option.bind_eq_some_iff.mp H
                  obtain ⟨y, hy⟩ : ∃ y, y = l ++ [x] := ⟨_, rfl⟩
                  rw [← hy] at A10
                  have HY := Aside0.mk hy
                  clear hy
                  have A1 := Aside0.mk A10
                  clear A10
                  have HH := Aside0.mk H
                  clear H
                  have hx2 : decide (x ≤ most) = true := decide_eq_true hx
                  clear hx
                  have hlt := HLT.out
                  go_wp2_with (first | (go_at_call 32; refine (spec_l1Own.calls A c l l _ (Kd.R_reads' HL.out).2.2 (Kd.R_reads' HL.out).2.1 (spec_prLists.own l hlt)).mono ?_; rintro e wa ⟨va, rfl, ho, hb⟩; have HOa := Aside0.mk ho; have HBr := Aside0.mk hb; clear hb ho) | ((with_reducible refine gate_builtin (b := .append) (xs := #[.tmp 45, .tmp 47]) rfl ?_); at_builtin; refine Kd.R_append (Kd.int .i64) (w0 := wr) wr.heap.size rfl (.tmp 45) (.tmp 47) 22 3 (.int .i64 0) 8 rfl Try.underlying22 spec_prLists.info rfl (by decide) (by omega) va l x [.int .i64 x] (fun _ => True) (fun _ => False) rfl rfl ?aP (fun _ hk => hk.elim) ?aF ?aO ?aB ?aS ?aL ?_; (case aP => exact rfl); (case aB => exact HBr.out); (case aF => exact (fun _ _ => trivial)); (case aO => exact HOa.out); (case aS => exact below_size HBr.out); (case aL => omega); intro v48 w12 ho hb hg hat; rw [← HY.out] at ho; have HO8 := Aside0.mk (Kd.R_lower ho (below_size HB.out)); replace HO := Aside0.mk (HO.out.below hb); replace HL := Aside0.mk (Kd.R_below HL.out hb); replace HT := Aside0.mk (HT.out.trans (spec_prLists.Stay.of_below hb)); replace HB := Aside0.mk (below_step HB.out hb); clear ho hb hg hat HOa HBr; obtain ⟨A48, c48, e48⟩ := Kd.R_slice HO8.out; subst e48) | (go_at_call 42; refine (IH.out k1 (by have := HKk.out; omega) st1 y st2 _ (.slice A48 y.length c48) A1.out HB.out HO.out HO8.out).mono ?_; clear IH; rintro e w14 ⟨rfl, ho, hst, hb⟩; replace HO := Aside0.mk ho; replace HL := Aside0.mk (spec_prLists.keepR HL.out hst); replace HT := Aside0.mk (HT.out.trans hst); replace HB := Aside0.mk hb; clear ho hst hb HO8))
                  go_roundg k1
                  case measure => have := HKk.out; omega
                  case rel => exact ⟨_, st2, rfl, HH, ⟨by have := HKk.out; omega⟩, HO, HL, HT, HB⟩
                · rw [if_neg hx] at H
                  have hx2 : decide (x ≤ most) = false := decide_eq_false hx
                  clear hx
                  obtain rfl := Option.some.inj H
                  go_wp2
                  go_end0
                  exact ⟨rfl, HO.out, HT.out, HB.out⟩
          · have hx1 : x0 = rd l (wrap64 ((l.length : Int) - 1)) := by rw [HX.out, if_neg h0]
            have hd0 : (0 < l.length) = True := eq_true (by omega)
            have hlt := HLT.out
            have hw : wrap64 ((l.length : Int) - 1) = (l.length : Int) - 1 := by unfold wrap64; omega
            have p0 : 0 ≤ wrap64 ((l.length : Int) - 1) := by rw [hw]; omega
            have q0 : wrap64 ((l.length : Int) - 1) < (l.length : Int) := by rw [hw]; omega
            obtain ⟨ad, eA, hcell⟩ := Kd.at_int HC.out.2.2 _ p0 q0
            clear h0 hw hlt HX
            subst hx1
            cases eA
            have p1 := eq_true p0
            have q1 := eq_true q0
            clear p0 q0
            go_enter Try.func42, Try.ntmps42
            go_wp2
            clear hm2 hd0 p1 q1 hcell
            go_loopg [11] k (fun kq v8 wr => ∃ (x : Int) (st1 : List (List Int)), v8 = .int .i64 x ∧ Aside0 (spec_prLists.go k0 people most total kq (some x) st1 l = some st') ∧ Aside0 (kq ≤ k) ∧ Aside0 (spec_prLists.Out G w0.heap.size st1 wr) ∧ Aside0 (Kd.R (Kd.int .i64) 3 wr w0.heap.size (fun _ => True) (.slice (some ad) l.length c) l) ∧ Aside0 (spec_prLists.Stay w wr) ∧ Aside0 (Below w0.heap.size w0 wr))
            case atStart => exact ⟨_, st, rfl, HH, ⟨Nat.le_refl _⟩, HO, HL, ⟨spec_prLists.Stay.refl _⟩, HB⟩
            case round =>
              clear HO HL HB HH HC
              obtain ⟨x, st1, rfl, HA, HKk, HO, HL, HT, HB⟩ := hrel
              cases gk with
              | zero => exact absurd HA.out (by simp [spec_prLists.go])
              | succ k1 =>
                have H := HA.out
                clear HA
                rw [spec_prLists.go] at H
                by_cases hx : x ≤ most
                · rw [if_pos hx] at H
                  obtain ⟨st2, A10, H⟩ := Option.bind_eq_some_iff.mp H
                  obtain ⟨y, hy⟩ : ∃ y, y = l ++ [x] := ⟨_, rfl⟩
                  rw [← hy] at A10
                  have HY := Aside0.mk hy
                  clear hy
                  have A1 := Aside0.mk A10
                  clear A10
                  have HH := Aside0.mk H
                  clear H
                  have hx2 : decide (x ≤ most) = true := decide_eq_true hx
                  clear hx
                  have hlt := HLT.out
                  go_wp2_with (first | (go_at_call 32; refine (spec_l1Own.calls (some ad) c l l _ (Kd.R_reads' HL.out).2.2 (Kd.R_reads' HL.out).2.1 (spec_prLists.own l hlt)).mono ?_; rintro e wa ⟨va, rfl, ho, hb⟩; have HOa := Aside0.mk ho; have HBr := Aside0.mk hb; clear hb ho) | ((with_reducible refine gate_builtin (b := .append) (xs := #[.tmp 45, .tmp 47]) rfl ?_); at_builtin; refine Kd.R_append (Kd.int .i64) (w0 := wr) wr.heap.size rfl (.tmp 45) (.tmp 47) 22 3 (.int .i64 0) 8 rfl Try.underlying22 spec_prLists.info rfl (by decide) (by omega) va l x [.int .i64 x] (fun _ => True) (fun _ => False) rfl rfl ?aP (fun _ hk => hk.elim) ?aF ?aO ?aB ?aS ?aL ?_; (case aP => exact rfl); (case aB => exact HBr.out); (case aF => exact (fun _ _ => trivial)); (case aO => exact HOa.out); (case aS => exact below_size HBr.out); (case aL => omega); intro v48 w12 ho hb hg hat; rw [← HY.out] at ho; have HO8 := Aside0.mk (Kd.R_lower ho (below_size HB.out)); replace HO := Aside0.mk (HO.out.below hb); replace HL := Aside0.mk (Kd.R_below HL.out hb); replace HT := Aside0.mk (HT.out.trans (spec_prLists.Stay.of_below hb)); replace HB := Aside0.mk (below_step HB.out hb); clear ho hb hg hat HOa HBr; obtain ⟨A48, c48, e48⟩ := Kd.R_slice HO8.out; subst e48) | (go_at_call 42; refine (IH.out k1 (by have := HKk.out; omega) st1 y st2 _ (.slice A48 y.length c48) A1.out HB.out HO.out HO8.out).mono ?_; clear IH; rintro e w14 ⟨rfl, ho, hst, hb⟩; replace HO := Aside0.mk ho; replace HL := Aside0.mk (spec_prLists.keepR HL.out hst); replace HT := Aside0.mk (HT.out.trans hst); replace HB := Aside0.mk hb; clear ho hst hb HO8))
                  go_roundg k1
                  case measure => have := HKk.out; omega
                  case rel => exact ⟨_, st2, rfl, HH, ⟨by have := HKk.out; omega⟩, HO, HL, HT, HB⟩
                · rw [if_neg hx] at H
                  have hx2 : decide (x ≤ most) = false := decide_eq_false hx
                  clear hx
                  obtain rfl := Option.some.inj H
                  go_wp2
                  go_end0
                  exact ⟨rfl, HO.out, HT.out, HB.out⟩

/-! ### spec_CountPairLists: function 19 -/
def spec_CountPairLists.f (k : Nat) (a0 a1 a2 : Int) : Option (Int × Bool) := (spec_prAsked.f a0 a1 a2).bind fun t => if t = true then (spec_prLists.go k a0 a1 a2 k none [] []).bind fun st => some ((st.length : Int), true) else some (0, false)
set_option maxHeartbeats 8000000 in
set_option maxRecDepth 100000 in
theorem spec_CountPairLists.calls (k : Nat) (a0 : Int) (a1 : Int) (a2 : Int) (r1 : Int) (r2 : Bool) (w : World) (h : spec_CountPairLists.f k a0 a1 a2 = some (r1, r2)) :
    Calls Try.prog 19 #[.int .i64 a0, .int .i64 a1, .int .i64 a2] w fun e w' => e = .returned (.tuple #[.int .i64 r1, .bool r2]) ∧ Below w.heap.size w w' := by
  have HB := Aside0.mk (Below.refl w.heap.size w)
  have H : ((spec_prAsked.f a0 a1 a2).bind fun t => if t = true then (spec_prLists.go k a0 a1 a2 k none [] []).bind fun st => some ((st.length : Int), true) else some (0, false)) = some (r1, r2) := h
  clear h
  obtain ⟨t, A20, H⟩ := Option.bind_eq_some_iff.mp H
  have A2 := Aside0.mk A20
  clear A20
  cases t with
  | false =>
    simp only [Bool.false_eq_true, if_false, Option.some.injEq, Prod.mk.injEq] at H
    obtain ⟨rfl, rfl⟩ := H
    go_enter Try.func19, Try.ntmps19
    go_wp2_with (go_at_call 41; refine (spec_prAsked.calls a0 a1 a2 false _ A2.out).mono ?_; rintro e w5 ⟨rfl, hd⟩; have hb := hd.below; clear hd; replace HB := Aside0.mk (below_step HB.out hb); clear hb)
    go_ret2
    exact ⟨rfl, HB.out⟩
  | true =>
    simp only [if_true] at H
    obtain ⟨st, A30, H⟩ := Option.bind_eq_some_iff.mp H
    have A3 := Aside0.mk A30
    clear A30
    have HH := Aside0.mk H
    clear H
    go_enter Try.func19, Try.ntmps19
    go_wp2_with (first | (go_at_call 41; refine (spec_prAsked.calls a0 a1 a2 true _ A2.out).mono ?_; rintro e w5 ⟨rfl, hd⟩; have hb := hd.below; clear hd; replace HB := Aside0.mk (below_step HB.out hb); clear hb) | ((with_reducible refine gate_dst (N := 8) rfl ?_); refine box_event ?hg (N := 8) ?hd (cs := #[.slice none 0 0]) (t := 40) ?hr ?_; (case hd => rfl); (case hg => rfl); (case hr => first | (go_simp; done) | (go_simp; rfl)); intro g8 hg w6 hbox hb; have X8 := Aside0.mk hbox; have GX8 := Aside0.mk ((by rw [hg]; exact below_size HB.out) : w.heap.size ≤ g8); replace HB := Aside0.mk (below_step HB.out hb); clear hb hbox hg) | (go_at_call 42; refine (spec_prLists.on k a0 a1 a2 g8 w GX8.out k [] [] st _ (.slice none 0 0) A3.out HB.out ⟨_, X8.out, Kd.S_nil _ _ _ _ _⟩ (Kd.R_nil _ _ _ _ _)).mono ?_; rintro e w9 ⟨rfl, ⟨v9, hv9, hs9⟩, hst, hb9⟩; replace HB := Aside0.mk hb9; clear hst hb9; obtain ⟨A9, c9, e9⟩ := Kd.S_slice hs9; subst e9; have hz9 : w9.cell? ⟨g8, 0, none⟩ = some (.slice A9 st.length c9) := (blk_cell hv9 0).trans rfl; have HS := Aside0.mk hs9; clear hv9 hs9))
    have H := HH.out
    simp only [Option.some.injEq, Prod.mk.injEq] at H
    obtain ⟨rfl, rfl⟩ := H
    go_ret2
    exact ⟨rfl, HB.out⟩

/-! ### impl_FirstPairList: function 20 -/
def impl_FirstPairList.E (k : Nat) (total : Int) (st : Option (List Int)) (l : List Int) : Option (Bool × Option (List Int)) := if 0 < l.length then (impl_pairTime.f k l).bind fun t => some (if t = total then (false, some l) else (decide (st = none), st)) else none
def impl_FirstPairList.f (k : Nat) (a0 a1 a2 : Int) : Option (List Int × Bool) := (impl_isAsked.f a0 a1 a2).bind fun t => if t = true then (impl_notFalling.go (impl_FirstPairList.E k a2) a0 a1 k none none []).bind fun p => some (p.2.getD [], p.2.isSome) else some ([], false)
/-- What the variable holds: nothing yet, or a list of the call's own. -/
def impl_FirstPairList.Out (G B5 N0 : Nat) (total : Int) (st : Option (List Int)) (W : World) : Prop :=
  (match st with
    | none => W.heap[G]? = some (.cells #[.slice none 0 0] 22 (0, 0))
    | some l => ∃ a c, W.heap[G]? = some (.cells #[.slice (some a) l.length c] 22 (0, 0)) ∧ Kd.R (Kd.int .i64) 3 W N0 (fun _ => True) (.slice (some a) l.length c) l) ∧ W.heap[B5]? = some (.cells #[.int .i64 total] 3 (0, 0))
theorem impl_FirstPairList.Out.below {G B5 N0 : Nat} {total : Int} {st : Option (List Int)} {W W' : World} (h : impl_FirstPairList.Out G B5 N0 total st W) (hb : Below W.heap.size W W') : impl_FirstPairList.Out G B5 N0 total st W' := by
  obtain ⟨h1, h2⟩ := h
  refine ⟨?_, blk_below (g := B5) h2 hb⟩
  cases st with
  | none => exact blk_below (g := G) h1 hb
  | some l =>
    obtain ⟨a, c, h3, h4⟩ := h1
    exact ⟨a, c, blk_below (g := G) h3 hb, Kd.R_below h4 hb⟩
set_option maxHeartbeats 8000000 in
set_option maxRecDepth 100000 in
theorem impl_FirstPairList.each (k : Nat) (total : Int) (st : Option (List Int)) (l : List Int) (t : Int) (G B5 N0 : Nat) (v : Value) (w : World) (hne : B5 ≠ G) (hGN : G < N0) (h0 : 0 < l.length) (h : impl_pairTime.f k l = some t) (ho : impl_FirstPairList.Out G B5 N0 total st w) (hl : Kd.R (Kd.int .i64) 3 w N0 (fun _ => True) v l) :
    Calls Try.prog 43 (#[v] ++ #[.pointer (some ⟨B5, 0, none⟩), .pointer (some ⟨G, 0, none⟩)]) w fun e w' => e = .returned (.bool (if t = total then false else decide (st = none))) ∧ impl_FirstPairList.Out G B5 N0 total (if t = total then some l else st) w' ∧ impl_notFalling.Kp G w w' := by
  obtain ⟨A, c, rfl⟩ := Kd.R_slice hl
  obtain ⟨a, rfl⟩ : ∃ a, A = some a := by
    have h1 := (Kd.R_reads' hl).2.2
    obtain ⟨a, ha, _⟩ := Kd.at_int h1 0 (by omega) (by omega)
    exact ⟨a, ha⟩
  show Calls Try.prog 43 #[.slice (some a) l.length c, .pointer (some ⟨B5, 0, none⟩), .pointer (some ⟨G, 0, none⟩)] w _
  obtain ⟨rb, hrb⟩ : ∃ rb, rb = (if t = total then false else decide (st = none)) := ⟨_, rfl⟩
  obtain ⟨sn, hsn⟩ : ∃ sn, sn = (if t = total then some l else st) := ⟨_, rfl⟩
  rw [← hrb, ← hsn]
  have HRB := Aside0.mk hrb
  have HSN := Aside0.mk hsn
  clear hrb hsn
  have HP := Aside0.mk h
  have HNE := Aside0.mk hne
  have HGN := Aside0.mk hGN
  have HL := Aside0.mk (Kd.R_drew hl)
  have HBr := Aside0.mk (below_drew1 (Below.refl w.heap.size w))
  have HO := Aside0.mk (ho.below HBr.out)
  clear h hne hGN ho hl h0
  have qT : ∀ (w : World) (a : Option Addr) (n c n' c' : Nat), (binOp .eql 22 (.slice a n c) (.slice none n' c')).run Try.prog w = .ok (.bool a.isNone) w := fun w a n c n' c' => Lib.run_eql_slice_nil w _ _ a n c n' c' Try.underlying22
  go_enter Try.func43, Try.ntmps43
  try go_wp2
  refine start_ (n := 4) (S := fun w' => w'.cell? ⟨B5, 0, none⟩ = some (.int .i64 total)) (ds := []) #[false, false, false, false] (by kernel_rfl) rfl rfl ((blk_cell HO.out.2 0).trans rfl) (fun hHeld => ?_)
  generalize w.drew = wd at HO HL HBr hHeld ⊢
  refine pure_ (i := 0) (N := some 5) (v := ?_) (a' := ?_) #[true, false, false, false] rfl rfl (by kernel_rfl) (fun _ _ _ h => h) (Or.inl ⟨by rfl, ?_⟩) ?_ ?_
  rotate_left
  · intro w'
    go_simp
    with_reducible rfl
  rotate_left
  · simp only [Act.put, List.setIfInBounds_toArray, List.set_cons_zero, List.set_cons_succ, i64_w, i32_w]
    rfl
  refine take_ (i := 2) (N := some 7) (v := ?_) (a' := ?_) #[true, false, true, false] rfl rfl (by kernel_rfl) (fun _ _ _ h => h) (Or.inl ⟨by rfl, ?_⟩) hHeld ?_ ?_
  rotate_left
  · rintro w' s0
    go_simp
    with_reducible rfl
  rotate_left
  · simp only [Act.put, List.setIfInBounds_toArray, List.set_cons_zero, List.set_cons_succ, i64_w, i32_w]
    rfl
  refine one_ (i := 1) (N := some 6) #[true, true, true, false] rfl rfl (by kernel_rfl) (by decide) (fun K hK => ?_)
  refine goes_ Try.func28 (by kernel_rfl) rfl #[.slice (some a) l.length c] (by rfl) rfl rfl (by (try simp only [List.map_toArray, List.map_cons, List.map_nil]); first | done | rfl) ?_
  refine (impl_pairTime.calls k (some a) c l t _ (Kd.R_reads' HL.out).2.2 (Kd.R_reads' HL.out).2.1 HP.out).mono ?_
  rintro e wa ⟨rfl, hb⟩
  refine ⟨_, rfl, ?_⟩
  replace HO := Aside0.mk (HO.out.below hb)
  replace HL := Aside0.mk (Kd.R_below HL.out hb)
  replace HBr := Aside0.mk (below_step HBr.out hb)
  clear hb
  refine hK.out _ _ ((blk_cell HO.out.2 0).trans rfl) (fun hHeld => ?_)
  clear hK K
  refine norm_ (a' := ?_) ?_ ?_
  rotate_left
  · show Act.put _ (some 6) _ = _
    simp only [Act.put, List.setIfInBounds_toArray, List.set_cons_zero, List.set_cons_succ, i64_w, i32_w]
    rfl
  refine pure_ (i := 3) (N := some 8) (v := ?_) (a' := ?_) #[true, true, true, true] rfl rfl (by kernel_rfl) (fun _ _ _ h => h) (Or.inl ⟨by rfl, ?_⟩) ?_ ?_
  rotate_left
  · intro w'
    go_simp
    with_reducible rfl
  rotate_left
  · simp only [Act.put, List.setIfInBounds_toArray, List.set_cons_zero, List.set_cons_succ, i64_w, i32_w]
    rfl
  refine done_ (by kernel_rfl) ?_
  clear hHeld
  obtain ⟨HO1, HO2⟩ := HO.out
  have HX := Aside0.mk HO2
  clear HO2 HO
  by_cases ht : t = total
  · have ht2 : (t == total) = true := by simpa using ht
    have HT := Aside0.mk ht
    obtain ⟨u, hG⟩ : ∃ u, wa.heap[G]? = some (.cells #[u] 22 (0, 0)) := by
      cases st with
      | none => exact ⟨_, HO1⟩
      | some l2 =>
        obtain ⟨a2, c2, h3, _⟩ := HO1
        exact ⟨_, h3⟩
    clear HO1 ht
    have hz : wa.cell? ⟨G, 0, none⟩ = some u := (blk_cell hG 0).trans rfl
    have hf := blk_frozen hG 0
    have HG := Aside0.mk hG
    clear hG
    have hz2 : (wa.setCell ⟨G, 0, none⟩ (.slice (some a) l.length c)).cell? ⟨G, 0, none⟩ = some (.slice (some a) l.length c) := World.cell?_setCell_same' _ _ _ (by rw [hz]; rfl)
    go_wp2
    go_ret
    rw [HRB.out, HSN.out, if_pos HT.out, if_pos HT.out]
    refine ⟨rfl, ⟨⟨a, c, blk_put (cs := #[u]) HG.out 0 _ rfl, Kd.R_mono (Kd.R_far (p := ⟨G, 0, none⟩) (Kd.R_mono (ok' := fun k_ => k_ ≠ G) (Kd.R_bound HL.out) (fun k_ hk => by have h9 := HGN.out; have := hk.2.1; omega)) (fun _ hk => hk) _) (fun _ _ => trivial)⟩, blk_far HX.out HNE.out _⟩, (impl_notFalling.Kp.of_below HBr.out).set _⟩
  · have ht2 : (t == total) = false := by simpa using ht
    have HT := Aside0.mk ht
    clear ht
    cases st with
    | none =>
      have HO1 : wa.heap[G]? = some (.cells #[.slice none 0 0] 22 (0, 0)) := HO1
      have hz : wa.cell? ⟨G, 0, none⟩ = some (.slice none 0 0) := (blk_cell HO1 0).trans rfl
      have HG := Aside0.mk HO1
      clear HO1
      go_wp2
      go_ret
      rw [HRB.out, HSN.out, if_neg HT.out, if_neg HT.out]
      exact ⟨rfl, ⟨HG.out, HX.out⟩, impl_notFalling.Kp.of_below HBr.out⟩
    | some l2 =>
      obtain ⟨a2, c2, h3, h4⟩ := HO1
      have hz : wa.cell? ⟨G, 0, none⟩ = some (.slice (some a2) l2.length c2) := (blk_cell h3 0).trans rfl
      have HG := Aside0.mk h3
      have HR := Aside0.mk h4
      clear h3 h4
      go_wp2
      go_ret
      rw [HRB.out, HSN.out, if_neg HT.out, if_neg HT.out]
      exact ⟨rfl, ⟨⟨a2, c2, HG.out, HR.out⟩, HX.out⟩, impl_notFalling.Kp.of_below HBr.out⟩
set_option maxHeartbeats 8000000 in
set_option maxRecDepth 100000 in
theorem impl_FirstPairList.calls (k : Nat) (a0 : Int) (a1 : Int) (a2 : Int) (r1 : List Int) (r2 : Bool) (w : World) (h : impl_FirstPairList.f k a0 a1 a2 = some (r1, r2)) :
    Calls Try.prog 20 #[.int .i64 a0, .int .i64 a1, .int .i64 a2] w fun e w' => ∃ v0_ : Value, e = .returned (.tuple #[v0_, .bool r2]) ∧ Kd.R (Kd.int .i64) 3 w' w.heap.size (fun _ => True) v0_ r1 ∧ Below w.heap.size w w' := by
  have HB := Aside0.mk (Below.refl w.heap.size w)
  have H : ((impl_isAsked.f a0 a1 a2).bind fun t => if t = true then (impl_notFalling.go (impl_FirstPairList.E k a2) a0 a1 k none none []).bind fun p => some (p.2.getD [], p.2.isSome) else some ([], false)) = some (r1, r2) := h
  clear h
  obtain ⟨t, A20, H⟩ := Option.bind_eq_some_iff.mp H
  have A2 := Aside0.mk A20
  clear A20
  have HH := Aside0.mk H
  clear H
  go_enter Try.func20, Try.ntmps20
  go_upto_region 1 with (first | ((with_reducible refine gate_dst (N := 5) rfl ?_); refine box_event ?hg (N := 5) ?hd (cs := #[.int .i64 a2]) (t := 3) ?hr ?_; (case hd => rfl); (case hg => rfl); (case hr => first | (go_simp; done) | (go_simp; rfl)); intro g5 hg w1 hbox hb; have X5 := Aside0.mk hbox; have GX5 := Aside0.mk ((by rw [hg]; exact below_size HB.out) : w.heap.size ≤ g5); replace HB := Aside0.mk (below_step HB.out hb); clear hb hbox hg))
  (try simp only [Act.put, List.setIfInBounds_toArray, List.set_cons_zero, List.set_cons_succ])
  have hz5 : w1.cell? ⟨g5, 0, none⟩ = some (.int .i64 a2) := (blk_cell X5.out 0).trans rfl
  cases t with
  | false =>
    have H := HH.out
    simp only [Bool.false_eq_true, if_false, Option.some.injEq, Prod.mk.injEq] at H
    obtain ⟨rfl, rfl⟩ := H
    go_wp2_with (go_at_call 37; refine (impl_isAsked.calls a0 a1 a2 false _ A2.out).mono ?_; rintro e w5 ⟨rfl, hd⟩; have hb := hd.below; clear hd; replace HB := Aside0.mk (below_step HB.out hb); clear hb hz5)
    go_ret2
    exact ⟨_, rfl, Kd.R_nil _ _ _ _ _, HB.out⟩
  | true =>
    have H := HH.out
    simp only [if_true] at H
    obtain ⟨⟨b9, n9⟩, A30, H⟩ := Option.bind_eq_some_iff.mp H
    have A3 := Aside0.mk A30
    clear A30
    simp only [Option.some.injEq, Prod.mk.injEq] at H
    obtain ⟨rfl, rfl⟩ := H
    clear HH
    have eg : ∀ args w, (callFunc 43 args).run Try.prog w = .ok (.enter 43 args) w := enters_of Try.func43 (by kernel_rfl) rfl
    go_wp2_with (first | (go_at_call 37; refine (impl_isAsked.calls a0 a1 a2 true _ A2.out).mono ?_; rintro e w5 ⟨rfl, hd⟩; have hb := hd.below; clear hd; replace X5 := Aside0.mk (blk_below (g := g5) X5.out hb); replace HB := Aside0.mk (below_step HB.out hb); clear hb hz5) | ((with_reducible refine gate_dst (N := 8) rfl ?_); refine box_event ?hg (N := 8) ?hd (cs := #[.slice none 0 0]) (t := 22) ?hr ?_; (case hd => rfl); (case hg => rfl); (case hr => first | (go_simp; done) | (go_simp; rfl)); intro g8 hg w6 hbox hb; have X8 := Aside0.mk hbox; have GX8 := Aside0.mk ((by rw [hg]; exact below_size HB.out) : w.heap.size ≤ g8); have nX8X5_ := Aside0.mk (Nat.ne_of_lt (Nat.lt_of_lt_of_le (blk_lt X5.out) (Nat.le_of_eq hg.symm)) : g5 ≠ g8); replace X5 := Aside0.mk (blk_below (g := g5) X5.out hb); replace HB := Aside0.mk (below_step HB.out hb); clear hb hbox hg))
    have hall : Calls Try.prog 38 #[.int .i64 a0, .int .i64 a1, .func (.func 43) #[] #[.pointer (some ⟨g5, 0, none⟩), .pointer (some ⟨g8, 0, none⟩)]] w6 fun e w' => e = .returned (.tuple #[]) ∧ impl_FirstPairList.Out g8 g5 w6.heap.size a2 n9 w' ∧ impl_notFalling.Kp g8 w6 w' := by
      exact impl_notFalling.calls (impl_FirstPairList.E k a2) a0 a1 43 #[.pointer (some ⟨g5, 0, none⟩), .pointer (some ⟨g8, 0, none⟩)] g8 (impl_FirstPairList.Out g8 g5 w6.heap.size a2) k none b9 n9 _ eg (blk_lt X8.out)
        (fun st w w' hs hb => hs.below hb)
        (fun st l b st' w1 v _ hE hs _ hl => by
          unfold impl_FirstPairList.E at hE
          by_cases h0 : 0 < l.length
          · rw [if_pos h0] at hE
            obtain ⟨t, ht, h2⟩ := Option.bind_eq_some_iff.mp hE
            have h3 := impl_FirstPairList.each k a2 st l t g8 g5 _ v w1 nX8X5_.out (blk_lt X8.out) h0 ht hs hl
            by_cases h5 : t = a2
            · simp only [if_pos h5, Option.some.injEq, Prod.mk.injEq] at h2 h3
              obtain ⟨rfl, rfl⟩ := h2
              exact h3
            · simp only [if_neg h5, Option.some.injEq, Prod.mk.injEq] at h2 h3
              obtain ⟨rfl, rfl⟩ := h2
              exact h3
          · rw [if_neg h0] at hE
            cases hE)
        ⟨X8.out, X5.out⟩ A3.out
    have HA := Aside0.mk hall
    clear hall
    go_wp2_with (go_at_call 38; refine HA.out.mono ?_; rintro e w9 ⟨rfl, hs9, hk9⟩; clear HA)
    have HB9 := Aside0.mk (below_drew1 (impl_notFalling.back HB.out hk9 GX8.out))
    obtain ⟨V9, hV9, hGv, hRv, hn9⟩ : ∃ V9, (V9 = .slice none 0 0 ∧ n9 = none ∨ ∃ a c, V9 = .slice (some a) (n9.getD []).length c ∧ n9.isSome = true) ∧ w9.heap[g8]? = some (.cells #[V9] 22 (0, 0)) ∧ Kd.R (Kd.int .i64) 3 w9 w6.heap.size (fun _ => True) V9 (n9.getD []) ∧ True := by
      cases n9 with
      | none => exact ⟨_, .inl ⟨rfl, rfl⟩, hs9.1, Kd.R_nil _ _ _ _ _, trivial⟩
      | some l =>
        obtain ⟨⟨a, c, h3, h4⟩, _⟩ := hs9
        exact ⟨_, .inr ⟨a, c, rfl, rfl⟩, h3, h4, trivial⟩
    clear hn9 hs9 hk9
    have HGv := Aside0.mk (blk_drew hGv)
    have HRv := Aside0.mk (Kd.R_drew (Kd.R_lower hRv (below_size HB.out)))
    clear hGv hRv
    rcases hV9 with ⟨rfl, rfl⟩ | ⟨a, c, rfl, hn⟩
    · refine start_ (n := 5) (S := fun w' => w'.cell? ⟨g8, 0, none⟩ = some (.slice none 0 0)) (ds := []) #[false, false, false, false, false] (by kernel_rfl) rfl rfl ((blk_cell HGv.out 0).trans rfl) (fun hHeld => ?_)
      generalize w9.drew = wd at HGv HRv HB9 hHeld ⊢
      refine take_ (i := 0) (N := some 18) (v := ?_) (a' := ?_) #[true, false, false, false, false] rfl rfl (by kernel_rfl) (fun _ _ _ h => h) (Or.inl ⟨by rfl, ?_⟩) hHeld ?_ ?_
      rotate_left
      · rintro w' s0
        go_simp
        with_reducible rfl
      rotate_left
      · simp only [Act.put, List.setIfInBounds_toArray, List.set_cons_zero, List.set_cons_succ, i64_w, i32_w]
        rfl
      refine take_ (i := 1) (N := some 19) (v := ?_) (a' := ?_) #[true, true, false, false, false] rfl rfl (by kernel_rfl) (fun _ _ _ h => h) (Or.inl ⟨by rfl, ?_⟩) hHeld ?_ ?_
      rotate_left
      · rintro w' s0
        go_simp
        with_reducible rfl
      rotate_left
      · simp only [Act.put, List.setIfInBounds_toArray, List.set_cons_zero, List.set_cons_succ, i64_w, i32_w]
        rfl
      refine pure_ (i := 2) (N := some 20) (v := ?_) (a' := ?_) #[true, true, true, false, false] rfl rfl (by kernel_rfl) (fun _ _ _ h => h) (Or.inl ⟨by rfl, ?_⟩) ?_ ?_
      rotate_left
      · intro w'
        go_simp; rw [run_neq_slice_nil_any _ _ _ _ _ _ _ _ Try.underlying22]; try go_simp
        with_reducible rfl
      rotate_left
      · simp only [Act.put, List.setIfInBounds_toArray, List.set_cons_zero, List.set_cons_succ, i64_w, i32_w]
        rfl
      refine pure_ (i := 3) (N := some 6) (v := ?_) (a' := ?_) #[true, true, true, true, false] rfl rfl (by kernel_rfl) (fun _ _ _ h => h) (Or.inl ⟨by rfl, ?_⟩) ?_ ?_
      rotate_left
      · intro w'
        go_simp
        with_reducible rfl
      rotate_left
      · simp only [Act.put, List.setIfInBounds_toArray, List.set_cons_zero, List.set_cons_succ, i64_w, i32_w]
        rfl
      refine pure_ (i := 4) (N := some 7) (v := ?_) (a' := ?_) #[true, true, true, true, true] rfl rfl (by kernel_rfl) (fun _ _ _ h => h) (Or.inl ⟨by rfl, ?_⟩) ?_ ?_
      rotate_left
      · intro w'
        go_simp
        with_reducible rfl
      rotate_left
      · simp only [Act.put, List.setIfInBounds_toArray, List.set_cons_zero, List.set_cons_succ, i64_w, i32_w]
        rfl
      refine done_ (by kernel_rfl) ?_
      try go_wp2
      go_ret2
      exact ⟨_, rfl, HRv.out, HB9.out⟩
    · refine start_ (n := 5) (S := fun w' => w'.cell? ⟨g8, 0, none⟩ = some (.slice (some a) (n9.getD []).length c)) (ds := []) #[false, false, false, false, false] (by kernel_rfl) rfl rfl ((blk_cell HGv.out 0).trans rfl) (fun hHeld => ?_)
      generalize w9.drew = wd at HGv HRv HB9 hHeld ⊢
      refine take_ (i := 0) (N := some 18) (v := ?_) (a' := ?_) #[true, false, false, false, false] rfl rfl (by kernel_rfl) (fun _ _ _ h => h) (Or.inl ⟨by rfl, ?_⟩) hHeld ?_ ?_
      rotate_left
      · rintro w' s0
        go_simp
        with_reducible rfl
      rotate_left
      · simp only [Act.put, List.setIfInBounds_toArray, List.set_cons_zero, List.set_cons_succ, i64_w, i32_w]
        rfl
      refine take_ (i := 1) (N := some 19) (v := ?_) (a' := ?_) #[true, true, false, false, false] rfl rfl (by kernel_rfl) (fun _ _ _ h => h) (Or.inl ⟨by rfl, ?_⟩) hHeld ?_ ?_
      rotate_left
      · rintro w' s0
        go_simp
        with_reducible rfl
      rotate_left
      · simp only [Act.put, List.setIfInBounds_toArray, List.set_cons_zero, List.set_cons_succ, i64_w, i32_w]
        rfl
      refine pure_ (i := 2) (N := some 20) (v := ?_) (a' := ?_) #[true, true, true, false, false] rfl rfl (by kernel_rfl) (fun _ _ _ h => h) (Or.inl ⟨by rfl, ?_⟩) ?_ ?_
      rotate_left
      · intro w'
        go_simp; rw [run_neq_slice_nil_any _ _ _ _ _ _ _ _ Try.underlying22]; try go_simp
        with_reducible rfl
      rotate_left
      · simp only [Act.put, List.setIfInBounds_toArray, List.set_cons_zero, List.set_cons_succ, i64_w, i32_w]
        rfl
      refine pure_ (i := 3) (N := some 6) (v := ?_) (a' := ?_) #[true, true, true, true, false] rfl rfl (by kernel_rfl) (fun _ _ _ h => h) (Or.inl ⟨by rfl, ?_⟩) ?_ ?_
      rotate_left
      · intro w'
        go_simp
        with_reducible rfl
      rotate_left
      · simp only [Act.put, List.setIfInBounds_toArray, List.set_cons_zero, List.set_cons_succ, i64_w, i32_w]
        rfl
      refine pure_ (i := 4) (N := some 7) (v := ?_) (a' := ?_) #[true, true, true, true, true] rfl rfl (by kernel_rfl) (fun _ _ _ h => h) (Or.inl ⟨by rfl, ?_⟩) ?_ ?_
      rotate_left
      · intro w'
        go_simp
        with_reducible rfl
      rotate_left
      · simp only [Act.put, List.setIfInBounds_toArray, List.set_cons_zero, List.set_cons_succ, i64_w, i32_w]
        rfl
      refine done_ (by kernel_rfl) ?_
      try go_wp2
      go_ret2
      rw [hn]
      exact ⟨_, rfl, HRv.out, HB9.out⟩

/-! ### spec_FirstPairList: function 21 -/
def spec_FirstPairList.f (k : Nat) (a0 a1 a2 : Int) : Option (List Int × Bool) := (spec_prAsked.f a0 a1 a2).bind fun t => if t = true then (spec_prLists.go k a0 a1 a2 k none [] []).bind fun st => if st.length = 0 then some ([], false) else some (st.getD 0 [], true) else some ([], false)
set_option maxHeartbeats 8000000 in
set_option maxRecDepth 100000 in
theorem spec_FirstPairList.calls (k : Nat) (a0 : Int) (a1 : Int) (a2 : Int) (r1 : List Int) (r2 : Bool) (w : World) (h : spec_FirstPairList.f k a0 a1 a2 = some (r1, r2)) :
    Calls Try.prog 21 #[.int .i64 a0, .int .i64 a1, .int .i64 a2] w fun e w' => ∃ v0_ : Value, e = .returned (.tuple #[v0_, .bool r2]) ∧ Kd.R (Kd.int .i64) 3 w' w.heap.size (fun _ => True) v0_ r1 ∧ Below w.heap.size w w' := by
  have HB := Aside0.mk (Below.refl w.heap.size w)
  have H : ((spec_prAsked.f a0 a1 a2).bind fun t => if t = true then (spec_prLists.go k a0 a1 a2 k none [] []).bind fun st => if st.length = 0 then some ([], false) else some (st.getD 0 [], true) else some ([], false)) = some (r1, r2) := h
  clear h
  obtain ⟨t, A20, H⟩ := Option.bind_eq_some_iff.mp H
  have A2 := Aside0.mk A20
  clear A20
  cases t with
  | false =>
    simp only [Bool.false_eq_true, if_false, Option.some.injEq, Prod.mk.injEq] at H
    obtain ⟨rfl, rfl⟩ := H
    go_enter Try.func21, Try.ntmps21
    go_wp2_with (go_at_call 41; refine (spec_prAsked.calls a0 a1 a2 false _ A2.out).mono ?_; rintro e w5 ⟨rfl, hd⟩; have hb := hd.below; clear hd; replace HB := Aside0.mk (below_step HB.out hb); clear hb)
    go_ret2
    exact ⟨_, rfl, Kd.R_nil _ _ _ _ _, HB.out⟩
  | true =>
    simp only [if_true] at H
    obtain ⟨st, A30, H⟩ := Option.bind_eq_some_iff.mp H
    have A3 := Aside0.mk A30
    clear A30
    rcases Nat.eq_zero_or_pos st.length with h0 | h0
    · have hd : ((st.length : Int) == 0) = true := by simpa using h0
      rw [if_pos h0] at H
      simp only [Option.some.injEq, Prod.mk.injEq] at H
      obtain ⟨rfl, rfl⟩ := H
      clear h0
      go_enter Try.func21, Try.ntmps21
      go_wp2_with (first | (go_at_call 41; refine (spec_prAsked.calls a0 a1 a2 true _ A2.out).mono ?_; rintro e w5 ⟨rfl, hd⟩; have hb := hd.below; clear hd; replace HB := Aside0.mk (below_step HB.out hb); clear hb) | ((with_reducible refine gate_dst (N := 8) rfl ?_); refine box_event ?hg (N := 8) ?hd (cs := #[.slice none 0 0]) (t := 40) ?hr ?_; (case hd => rfl); (case hg => rfl); (case hr => first | (go_simp; done) | (go_simp; rfl)); intro g8 hg w6 hbox hb; have X8 := Aside0.mk hbox; have GX8 := Aside0.mk ((by rw [hg]; exact below_size HB.out) : w.heap.size ≤ g8); replace HB := Aside0.mk (below_step HB.out hb); clear hb hbox hg) | (go_at_call 42; refine (spec_prLists.on k a0 a1 a2 g8 w GX8.out k [] [] st _ (.slice none 0 0) A3.out HB.out ⟨_, X8.out, Kd.S_nil _ _ _ _ _⟩ (Kd.R_nil _ _ _ _ _)).mono ?_; rintro e w9 ⟨rfl, ⟨v9, hv9, hs9⟩, hst, hb9⟩; replace HB := Aside0.mk hb9; clear hst hb9; obtain ⟨A9, c9, e9⟩ := Kd.S_slice hs9; subst e9; have hz9 : w9.cell? ⟨g8, 0, none⟩ = some (.slice A9 st.length c9) := (blk_cell hv9 0).trans rfl; have HS := Aside0.mk hs9; clear hv9 hs9))
      go_ret2
      exact ⟨_, rfl, Kd.R_nil _ _ _ _ _, HB.out⟩
    · have hd : ((st.length : Int) == 0) = false := beq_eq_false_iff_ne.mpr (by omega)
      rw [if_neg (by omega)] at H
      simp only [Option.some.injEq, Prod.mk.injEq] at H
      obtain ⟨rfl, rfl⟩ := H
      obtain ⟨y, hy⟩ : ∃ y, y = st.getD 0 [] := ⟨_, rfl⟩
      rw [← hy]
      have HY := Aside0.mk hy
      clear hy
      have H0 := Aside0.mk h0
      have p0 := eq_true (show (0 : Int) < (st.length : Int) by omega)
      have p1 := eq_true h0
      clear h0
      go_enter Try.func21, Try.ntmps21
      go_wp2_with (first | (go_at_call 41; refine (spec_prAsked.calls a0 a1 a2 true _ A2.out).mono ?_; rintro e w5 ⟨rfl, hd⟩; have hb := hd.below; clear hd; replace HB := Aside0.mk (below_step HB.out hb); clear hb) | ((with_reducible refine gate_dst (N := 8) rfl ?_); refine box_event ?hg (N := 8) ?hd (cs := #[.slice none 0 0]) (t := 40) ?hr ?_; (case hd => rfl); (case hg => rfl); (case hr => first | (go_simp; done) | (go_simp; rfl)); intro g8 hg w6 hbox hb; have X8 := Aside0.mk hbox; have GX8 := Aside0.mk ((by rw [hg]; exact below_size HB.out) : w.heap.size ≤ g8); replace HB := Aside0.mk (below_step HB.out hb); clear hb hbox hg) | (go_at_call 42; refine (spec_prLists.on k a0 a1 a2 g8 w GX8.out k [] [] st _ (.slice none 0 0) A3.out HB.out ⟨_, X8.out, Kd.S_nil _ _ _ _ _⟩ (Kd.R_nil _ _ _ _ _)).mono ?_; rintro e w9 ⟨rfl, ⟨v9, hv9, hs9⟩, hst, hb9⟩; replace HB := Aside0.mk hb9; clear hst hb9; obtain ⟨A9, c9, e9⟩ := Kd.S_slice hs9; subst e9; have hz9 : w9.cell? ⟨g8, 0, none⟩ = some (.slice A9 st.length c9) := (blk_cell hv9 0).trans rfl; have HS := Aside0.mk hs9; clear hv9 hs9; have h0 := H0.out; obtain ⟨ad, e8, _⟩ := (Kd.R_reads' (Kd.S_R HS.out)).2.2.2.2 h0; subst e8; obtain ⟨cc, hcl, hM, hcc⟩ := Kd.R_get (Kd.S_R HS.out) [] 0 (by omega) (by omega); obtain ⟨v0, hv0, hR0⟩ := hM; subst hv0; have hc0 := hcc 0 v0 rfl; have HR := Aside0.mk hR0; clear h0 hcc hcl hR0; obtain ⟨A0, c0, e0⟩ := Kd.R_slice HR.out; subst e0; have hcz : w9.cell? ad = some (.slice A0 y.length c0) := (by rw [HY.out]; exact hc0); have hy_ : st.getD (Int.toNat 0) [] = y := HY.out.symm; rw [hy_] at HR; clear hc0))
      go_ret2
      exact ⟨_, rfl, Kd.R_mono HR.out (fun _ _ => trivial), HB.out⟩

end Go.Proofs.Ytmejodmokogblaa.G
