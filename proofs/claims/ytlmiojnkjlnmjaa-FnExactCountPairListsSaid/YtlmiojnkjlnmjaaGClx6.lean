-- Laid by wip/gprint.py (the session's own program, round the kit's printer) for this claim.
import Derived.Test.YtlmiojnkjlnmjaaGClx0
import Derived.Test.YtlmiojnkjlnmjaaGClx4
import Derived.Test.YtlmiojnkjlnmjaaGClx5
namespace Go.Proofs.Ytlmiojnkjlnmjaa.G
open Go.RowKit Go.Proofs.YtlmiojnkjlnmjaaW.PrintWords Go.Proofs.YtlmiojnkjlnmjaaW.PrintLast Go.Proofs.YtlmiojnkjlnmjaaW.PrintMore
attribute [local go_sem] max2_int min2_int max_two min_two max_three min_three max_four min_four   -- for this text's walks alone
set_option linter.unusedVariables false
set_option linter.unusedSimpArgs false

/-! ### spec_prLists: function 65 -/
/-- The lists with a time, in their order, behind those that there are. -/
def spec_prLists.go (k0 : Nat) (people most total : Int) : Nat → Option Int → List (List Int) → List Int → Option (List (List Int))
  | 0, _, _, _ => none
  | k + 1, none, st, l => if l.length < 1048576 then (if (l.length : Int) = people then (spec_prTime.f k0 l).bind fun t => if t = total then (if st.length < 1048576 then some (st ++ [l]) else none) else some st else spec_prLists.go k0 people most total k (some (if l.length = 0 then 1 else rd l (wrap64 ((l.length : Int) - 1)))) st l) else none
  | k + 1, some x, st, l => if x ≤ most then (spec_prLists.go k0 people most total k none st (l ++ [x])).bind fun st2 => spec_prLists.go k0 people most total k (some (wrap64 (x + 1))) st2 l else some st
/-- Rows of ints stay as they are. -/
def spec_prLists.Stay (W W' : World) : Prop := ∀ (k : Nat) (cells : Array Value), W.heap[k]? = some (.cells cells 3 (0, 0)) → W'.heap[k]? = W.heap[k]?
theorem spec_prLists.Stay.refl (W : World) : spec_prLists.Stay W W := fun _ _ _ => rfl
theorem spec_prLists.Stay.trans {W W1 W2 : World} (h : spec_prLists.Stay W W1) (k : spec_prLists.Stay W1 W2) : spec_prLists.Stay W W2 := fun g cells hc => (k g cells ((h g cells hc).trans hc)).trans (h g cells hc)
theorem spec_prLists.Stay.of_below {W W1 : World} (h : Below W.heap.size W W1) : spec_prLists.Stay W W1 := fun g _ hc => h.block g (blk_lt hc)
theorem spec_prLists.Stay.set {W : World} {gb j t : Nat} {cs : Array Value} (hb : W.heap[gb]? = some (.cells cs t (0, 0))) (ht : t ≠ 3) (u : Value) : spec_prLists.Stay W (W.setCell ⟨gb, j, none⟩ u) := fun g cells hc => Below.heap_setCell W _ u g (fun he => by
  have he2 : g = gb := he
  subst he2
  rw [hb] at hc
  injection hc with hc
  injection hc with _ hc
  exact ht hc)
theorem spec_prLists.Stay.of_row {W W1 : World} {v : Value} (ht : ∀ k, v.ownBlock = some k → ∃ cells, W.heap[k]? = some (.cells cells 22 (0, 0))) (hg : W.grownBy W1 v.ownBlock) : spec_prLists.Stay W W1 := fun k cells hc => hg.block k (blk_lt hc) (fun he => by
  obtain ⟨c9, h9⟩ := ht k he.symm
  rw [h9] at hc
  injection hc with hc
  injection hc with _ hc
  exact absurd hc (by decide))
theorem spec_prLists.keepR {W W1 : World} {b : Nat} {v : Value} {xs : List Int} (h : Kd.R (Kd.int .i64) 3 W b (fun _ => True) v xs) (hs : spec_prLists.Stay W W1) : Kd.R (Kd.int .i64) 3 W1 b (fun _ => True) v xs :=
  Kd.R_mono (Kd.R_move (Kd.R_bound h) (fun k hk => by
    obtain ⟨_, _, _, q, hq, cells, hc⟩ := hk
    have hq2 : q = 3 := by
      rcases List.mem_cons.1 hq with e | e
      · exact e
      · exact absurd e (by simp [Kd.int, Kd.scalar])
    subst hq2
    exact hs k cells hc)) (fun _ _ => trivial)
theorem spec_prLists.own (l : List Int) (h : l.length < 1048576) : spec_l1Own.f l = some l := by
  unfold spec_l1Own.f
  rw [Option.bind_some, if_pos (by simp; omega), List.nil_append]
theorem spec_prLists.info : (Try.prog.info? 3).map (fun i => (i.zero, i.size, i.bytes)) = some (some (.int .i64 0), 1, 8) := by kernel_rfl
theorem spec_prLists.infoS : (Try.prog.info? 22).map (fun i => (i.zero, i.size, i.bytes)) = some (some (.slice none 0 0), 1, 24) := by kernel_rfl
/-- What the variable holds. -/
def spec_prLists.Out (G N0 : Nat) (st : List (List Int)) (W : World) : Prop := ∃ v : Value, W.heap[G]? = some (.cells #[v] 42 (0, 0)) ∧ Kd.S (Kd.slice 3 (Kd.int .i64)) 22 W N0 (fun _ => True) v st
theorem spec_prLists.Out.below {G N0 : Nat} {st : List (List Int)} {W W' : World} (h : spec_prLists.Out G N0 st W) (hb : Below W.heap.size W W') : spec_prLists.Out G N0 st W' := by
  obtain ⟨v, h1, h2⟩ := h
  exact ⟨v, blk_below (g := G) h1 hb, Kd.S_below h2 hb⟩
set_option maxHeartbeats 8000000 in
set_option maxRecDepth 100000 in
theorem spec_prLists.on (k0 : Nat) (people most total : Int) (G : Nat) (w0 : World) (hGN : w0.heap.size ≤ G) :
    ∀ (k : Nat) (st : List (List Int)) (l : List Int) (st' : List (List Int)) (w : World) (v : Value), spec_prLists.go k0 people most total k none st l = some st' → Below w0.heap.size w0 w → spec_prLists.Out G w0.heap.size st w → Kd.R (Kd.int .i64) 3 w w0.heap.size (fun _ => True) v l →
    Calls Try.prog 65 #[v, .int .i64 people, .int .i64 most, .int .i64 total, .pointer (some ⟨G, 0, none⟩)] w fun e w' => e = .returned (.tuple #[]) ∧ spec_prLists.Out G w0.heap.size st' w' ∧ spec_prLists.Stay w w' ∧ Below w0.heap.size w0 w' := by
  have HGN := Aside0.mk hGN
  clear hGN
  intro k
  induction k using Nat.strongRecOn with
  | _ k ih =>
    intro st l st' w v h hB hO hl
    have IH := Aside0.mk ih
    clear ih
    cases k with
    | zero => simp [spec_prLists.go] at h
    | succ k =>
      obtain ⟨A, c, rfl⟩ := Kd.R_slice hl
      have HL := Aside0.mk hl
      have HB := Aside0.mk hB
      have HO := Aside0.mk hO
      clear hl hB hO
      rw [spec_prLists.go] at h
      by_cases hlt : l.length < 1048576
      case neg =>
        rw [if_neg hlt] at h
        cases h
      rw [if_pos hlt] at h
      have HLB := Aside0.mk hlt
      have HLT := Aside0.mk hlt
      clear hlt
      by_cases hm : (l.length : Int) = people
      · rw [if_pos hm] at h
        obtain ⟨t, A20, h⟩ := Option.bind_eq_some_iff.mp h
        have A2 := Aside0.mk A20
        clear A20 IH
        have hm2 : ((l.length : Int) == people) = true := by simpa using hm
        clear hm
        by_cases ht : t = total
        · rw [if_pos ht] at h
          have ht2 : (t == total) = true := by simpa using ht
          by_cases hst : st.length < 1048576
          · rw [if_pos hst] at h
            have HY := Aside0.mk (Option.some.inj h)
            clear h ht
            have HST := Aside0.mk hst
            clear hst
            go_enter Try.func65, Try.ntmps65
            go_wp2_with (go_at_call 59; refine (spec_prTime.calls k0 A c l t _ (Kd.R_reads' HL.out).2.2 (Kd.R_reads' HL.out).2.1 A2.out).mono ?_; rintro e w5 ⟨rfl, hb⟩; have ST := Aside0.mk (spec_prLists.Stay.of_below hb); replace HO := Aside0.mk (HO.out.below hb); replace HL := Aside0.mk (Kd.R_below HL.out hb); replace HB := Aside0.mk (below_step HB.out hb); clear hb)
            have hlb := HLB.out
            obtain ⟨va, hva, hsa⟩ := HO.out
            have HG := Aside0.mk (blk_drew hva)
            have HS := Aside0.mk (Kd.S_drew hsa)
            clear hva hsa HO
            replace HL := Aside0.mk (Kd.R_drew HL.out)
            replace ST := Aside0.mk (ST.out.trans (spec_prLists.Stay.of_below (below_drew1 (Below.refl w5.heap.size w5))))
            replace HB := Aside0.mk (below_drew1 HB.out)
            refine start_ (n := 10) (S := fun w' => w'.cell? ⟨G, 0, none⟩ = some va) (ds := [9]) #[false, false, false, false, false, false, false, false, false, false] (by kernel_rfl) rfl rfl ((blk_cell HG.out 0).trans rfl) (fun hHeld => ?_)
            generalize w5.drew = wd at HG HS HL HB ST hHeld ⊢
            refine pure_ (i := 0) (N := some 20) (v := ?_) (a' := ?_) #[true, false, false, false, false, false, false, false, false, false] rfl rfl (by kernel_rfl) (fun _ _ _ h => h) (Or.inl ⟨by rfl, ?_⟩) ?_ ?_
            rotate_left
            · intro w'
              go_simp
              with_reducible rfl
            rotate_left
            · simp only [Act.put, List.setIfInBounds_toArray, List.set_cons_zero, List.set_cons_succ, i64_w, i32_w]
              rfl
            refine pure_ (i := 1) (N := some 21) (v := ?_) (a' := ?_) #[true, true, false, false, false, false, false, false, false, false] rfl rfl (by kernel_rfl) (fun _ _ _ h => h) (Or.inl ⟨by rfl, ?_⟩) ?_ ?_
            rotate_left
            · intro w'
              go_simp
              with_reducible rfl
            rotate_left
            · simp only [Act.put, List.setIfInBounds_toArray, List.set_cons_zero, List.set_cons_succ, i64_w, i32_w]
              rfl
            refine pure_ (i := 2) (N := some 22) (v := ?_) (a' := ?_) #[true, true, true, false, false, false, false, false, false, false] rfl rfl (by kernel_rfl) (fun _ _ _ h => h) (Or.inl ⟨by rfl, ?_⟩) ?_ ?_
            rotate_left
            · intro w'
              go_simp
              with_reducible rfl
            rotate_left
            · simp only [Act.put, List.setIfInBounds_toArray, List.set_cons_zero, List.set_cons_succ, i64_w, i32_w]
              rfl
            refine take_ (i := 3) (N := some 23) (v := ?_) (a' := ?_) #[true, true, true, true, false, false, false, false, false, false] rfl rfl (by kernel_rfl) (fun _ _ _ h => h) (Or.inl ⟨by rfl, ?_⟩) hHeld ?_ ?_
            rotate_left
            · rintro w' s0
              go_simp
              with_reducible rfl
            rotate_left
            · simp only [Act.put, List.setIfInBounds_toArray, List.set_cons_zero, List.set_cons_succ, i64_w, i32_w]
              rfl
            refine pure_ (i := 4) (N := some 24) (v := ?_) (a' := ?_) #[true, true, true, true, true, false, false, false, false, false] rfl rfl (by kernel_rfl) (fun _ _ _ h => h) (Or.inl ⟨by rfl, ?_⟩) ?_ ?_
            rotate_left
            · intro w'
              go_simp
              with_reducible rfl
            rotate_left
            · simp only [Act.put, List.setIfInBounds_toArray, List.set_cons_zero, List.set_cons_succ, i64_w, i32_w]
              rfl
            refine one_ (i := 5) (N := some 25) #[true, true, true, true, true, true, false, false, false, false] rfl rfl (by kernel_rfl) (by decide) (fun K hK => ?_)
            refine goes_ Try.func77 (by kernel_rfl) rfl #[.slice A l.length c] (by rfl) rfl rfl (by (try simp only [List.map_toArray, List.map_cons, List.map_nil]); first | done | rfl) ?_
            refine (spec_l1Own.calls A c l l _ (Kd.R_reads' HL.out).2.2 (Kd.R_reads' HL.out).2.1 (spec_prLists.own l HLB.out)).mono ?_
            rintro e wa ⟨v25, rfl, ho, hb⟩
            refine ⟨_, rfl, ?_⟩
            have LT := Aside0.mk (Kd.S_lt HS.out)
            have BS := Aside0.mk (Kd.R_base ho)
            have HS2 := Aside0.mk (Kd.S_mono (ok' := fun k_ => True ∧ ¬ some k_ = v25.ownBlock) (Kd.S_below (Kd.S_mono (ok' := fun k_ => k_ < wd.heap.size) (Kd.S_bound HS.out) (fun _ hk => hk.2.2.1)) hb) (fun k_ hk => ⟨trivial, fun e_ => by have h9 := BS.out k_ e_.symm; omega⟩))
            have HO := Aside0.mk (Kd.R_tight rfl (Kd.R_lower ho (below_size HB.out)))
            replace HG := Aside0.mk (blk_below (g := G) HG.out hb)
            replace HS := Aside0.mk (Kd.S_below HS.out hb)
            replace ST := Aside0.mk (ST.out.trans (spec_prLists.Stay.of_below hb))
            replace HB := Aside0.mk (below_step HB.out hb)
            clear hb ho
            obtain ⟨A25, c25, e25⟩ := Kd.R_slice HO.out
            subst e25
            refine hK.out _ _ ((blk_cell HG.out 0).trans rfl) (fun hHeld => ?_)
            clear hK K
            refine norm_ (a' := ?_) ?_ ?_
            rotate_left
            · show Act.put _ (some 25) _ = _
              simp only [Act.put, List.setIfInBounds_toArray, List.set_cons_zero, List.set_cons_succ, i64_w, i32_w]
              rfl
            refine one_ (i := 6) (N := some 26) #[true, true, true, true, true, true, true, false, false, false] rfl rfl (by kernel_rfl) (by decide) (fun K hK => ?_)
            refine event_step (v := .slice (some ⟨wa.heap.size, 0, none⟩) 1 1) (w1 := wa.alloc (.cells #[.slice A25 l.length c25] 22)) (by rfl) ?hr ?_
            (case hr => first | (go_simp; done) | (go_simp; rfl))
            refine hK.out _ _ (pw_cell_below (below_alloc (Below.refl _ _) _) hHeld) (fun hHeld => ?_)
            clear hK K
            refine norm_ (a' := ?_) ?_ ?_
            rotate_left
            · show Act.put _ (some 26) _ = _
              simp only [Act.put, List.setIfInBounds_toArray, List.set_cons_zero, List.set_cons_succ, i64_w, i32_w]
              rfl
            refine one_ (i := 7) (N := some 27) #[true, true, true, true, true, true, true, true, false, false] rfl rfl (by kernel_rfl) (by decide) (fun K hK => ?_)
            refine Kd.S_append_step (Kd.slice 3 (Kd.int .i64)) (w0 := w0) w0.heap.size (by rfl) (.tmp 23) (.tmp 26) 42 22 (.slice none 0 0) 24 rfl Try.underlying42 spec_prLists.infoS rfl (by decide) (by omega) va st l [.slice A25 l.length c25] (fun _ => True) (fun k_ => some k_ = (.slice A25 l.length c25 : Value).ownBlock) rfl rfl ?aP (fun k_ hk_ => ⟨trivial, fun e_ => by have h9 := LT.out k_ e_.symm; have h8 := BS.out k_ hk_.symm; omega⟩) ?aF ?aO ?aB ?aS ?aL ?_
            (case aP => exact ⟨_, rfl, HO.out⟩)
            (case aF => exact (fun _ _ => trivial))
            (case aO => exact HS2.out)
            (case aB => exact HB.out)
            (case aS => exact below_size HB.out)
            (case aL => have := HST.out; omega)
            intro v27 w7 ho hb hg hat
            rw [HY.out] at ho
            replace ST := Aside0.mk (ST.out.trans (spec_prLists.Stay.of_row (Kd.S_typed HS.out) hg))
            replace HG := Aside0.mk (blk_grown (g := G) HG.out hg (Kd.S_ne HS.out HG.out (by decide)))
            replace HB := Aside0.mk hb
            replace HS := Aside0.mk ho
            clear ho hb hg hat HO LT BS HS2
            refine hK.out _ _ ((blk_cell HG.out 0).trans rfl) (fun hHeld => ?_)
            clear hK K
            refine norm_ (a' := ?_) ?_ ?_
            rotate_left
            · show Act.put _ (some 27) _ = _
              simp only [Act.put, List.setIfInBounds_toArray, List.set_cons_zero, List.set_cons_succ, i64_w, i32_w]
              rfl
            refine pure_ (i := 8) (N := some 28) (v := ?_) (a' := ?_) #[true, true, true, true, true, true, true, true, true, false] rfl rfl (by kernel_rfl) (fun _ _ _ h => h) (Or.inl ⟨by rfl, ?_⟩) ?_ ?_
            rotate_left
            · intro w'
              go_simp
              with_reducible rfl
            rotate_left
            · simp only [Act.put, List.setIfInBounds_toArray, List.set_cons_zero, List.set_cons_succ, i64_w, i32_w]
              rfl
            have hz0 : w7.cell? ⟨G, 0, none⟩ = some va := (blk_cell HG.out 0).trans rfl
            have hf0 := blk_frozen HG.out 0
            obtain ⟨A27, c27, e27⟩ := Kd.S_slice HS.out
            subst e27
            refine last_ (i := 9) (N := none) #[true, true, true, true, true, true, true, true, true, true] rfl rfl (by kernel_rfl) (by decide) (fun K hK => ?_)
            refine skip_ (w1 := ?_) (by rfl) rfl ?_ ?_
            rotate_left
            · go_simp
              rfl
            refine hK.out _ _ ?_
            clear hK K
            refine done_ (by kernel_rfl) ?_
            go_wp2
            (try simp only [Exit.inBlock, Exit.then]); refine bodyPost_ret (results_none rfl _ _ _) rfl ?_
            exact ⟨rfl, ⟨_, blk_put (cs := #[va]) HG.out 0 _ rfl, Kd.S_mono (Kd.S_far (p := ⟨G, 0, none⟩) (Kd.S_types HS.out HG.out (by decide)) (fun _ hk => hk.2) _) (fun _ _ => trivial)⟩, ST.out.trans (spec_prLists.Stay.set HG.out (by decide) _), (HB.out.setCell (p := ⟨G, 0, none⟩) HGN.out _)⟩
          · rw [if_neg hst] at h
            cases h
        · rw [if_neg ht] at h
          have ht2 : (t == total) = false := by simpa using ht
          obtain rfl := Option.some.inj h
          clear h ht
          go_enter Try.func65, Try.ntmps65
          go_wp2_with (go_at_call 59; refine (spec_prTime.calls k0 A c l t _ (Kd.R_reads' HL.out).2.2 (Kd.R_reads' HL.out).2.1 A2.out).mono ?_; rintro e w5 ⟨rfl, hb⟩; have ST := Aside0.mk (spec_prLists.Stay.of_below hb); replace HO := Aside0.mk (HO.out.below hb); replace HB := Aside0.mk (below_step HB.out hb); clear hb)
          (try simp only [Exit.inBlock, Exit.then]); refine bodyPost_ret (results_none rfl _ _ _) rfl ?_
          exact ⟨rfl, HO.out, ST.out, HB.out⟩
      · rw [if_neg hm] at h
        · have hm2 : ((l.length : Int) == people) = false := by simpa using hm
          obtain ⟨x0, hx0⟩ : ∃ x0, x0 = (if l.length = 0 then (1 : Int) else rd l (wrap64 ((l.length : Int) - 1))) := ⟨_, rfl⟩
          rw [← hx0] at h
          have HX := Aside0.mk hx0
          have HH := Aside0.mk h
          have HC := Aside0.mk (Kd.R_reads' HL.out)
          clear hx0 h hm
          by_cases h0 : l.length = 0
          · have hx1 : x0 = 1 := by rw [HX.out, if_pos h0]
            have hd0 : (0 < l.length) = False := eq_false (by omega)
            clear h0 HX
            subst hx1
            go_enter Try.func65, Try.ntmps65
            go_wp2
            clear hm2 hd0
            go_loopg [11] k (fun kq v8 wr => ∃ (x : Int) (st1 : List (List Int)), v8 = .int .i64 x ∧ Aside0 (spec_prLists.go k0 people most total kq (some x) st1 l = some st') ∧ Aside0 (kq ≤ k) ∧ Aside0 (spec_prLists.Out G w0.heap.size st1 wr) ∧ Aside0 (Kd.R (Kd.int .i64) 3 wr w0.heap.size (fun _ => True) (.slice A l.length c) l) ∧ Aside0 (spec_prLists.Stay w wr) ∧ Aside0 (Below w0.heap.size w0 wr))
            case atStart => exact ⟨_, st, rfl, HH, ⟨Nat.le_refl _⟩, HO, HL, ⟨spec_prLists.Stay.refl _⟩, HB⟩
            case round =>
              clear HO HL HB HH HC
              obtain ⟨x, st1, rfl, HA, HKk, HO, HL, HT, HB⟩ := hrel
              cases gk with
              | zero => exact absurd HA.out (by simp [spec_prLists.go])
              | succ k1 =>
                have H := HA.out
                clear HA
                rw [spec_prLists.go] at H
                by_cases hx : x ≤ most
                · rw [if_pos hx] at H
                  obtain ⟨st2, A10, H⟩ := Option.bind_eq_some_iff.mp H
                  obtain ⟨y, hy⟩ : ∃ y, y = l ++ [x] := ⟨_, rfl⟩
                  rw [← hy] at A10
                  have HY := Aside0.mk hy
                  clear hy
                  have A1 := Aside0.mk A10
                  clear A10
                  have HH := Aside0.mk H
                  clear H
                  have hx2 : decide (x ≤ most) = true := decide_eq_true hx
                  clear hx
                  have hlt := HLT.out
                  go_wp2_with (first | (go_at_call 77; refine (spec_l1Own.calls A c l l _ (Kd.R_reads' HL.out).2.2 (Kd.R_reads' HL.out).2.1 (spec_prLists.own l hlt)).mono ?_; rintro e wa ⟨va, rfl, ho, hb⟩; have HOa := Aside0.mk ho; have HBr := Aside0.mk hb; clear hb ho) | ((with_reducible refine gate_builtin (b := .append) (xs := #[.tmp 45, .tmp 47]) rfl ?_); at_builtin; refine Kd.R_append (Kd.int .i64) (w0 := wr) wr.heap.size rfl (.tmp 45) (.tmp 47) 22 3 (.int .i64 0) 8 rfl Try.underlying22 spec_prLists.info rfl (by decide) (by omega) va l x [.int .i64 x] (fun _ => True) (fun _ => False) rfl rfl ?aP (fun _ hk => hk.elim) ?aF ?aO ?aB ?aS ?aL ?_; (case aP => exact rfl); (case aB => exact HBr.out); (case aF => exact (fun _ _ => trivial)); (case aO => exact HOa.out); (case aS => exact below_size HBr.out); (case aL => omega); intro v48 w12 ho hb hg hat; rw [← HY.out] at ho; have HO8 := Aside0.mk (Kd.R_lower ho (below_size HB.out)); replace HO := Aside0.mk (HO.out.below hb); replace HL := Aside0.mk (Kd.R_below HL.out hb); replace HT := Aside0.mk (HT.out.trans (spec_prLists.Stay.of_below hb)); replace HB := Aside0.mk (below_step HB.out hb); clear ho hb hg hat HOa HBr; obtain ⟨A48, c48, e48⟩ := Kd.R_slice HO8.out; subst e48) | (go_at_call 65; refine (IH.out k1 (by have := HKk.out; omega) st1 y st2 _ (.slice A48 y.length c48) A1.out HB.out HO.out HO8.out).mono ?_; clear IH; rintro e w14 ⟨rfl, ho, hst, hb⟩; replace HO := Aside0.mk ho; replace HL := Aside0.mk (spec_prLists.keepR HL.out hst); replace HT := Aside0.mk (HT.out.trans hst); replace HB := Aside0.mk hb; clear ho hst hb HO8))
                  go_roundg k1
                  case measure => have := HKk.out; omega
                  case rel => exact ⟨_, st2, rfl, HH, ⟨by have := HKk.out; omega⟩, HO, HL, HT, HB⟩
                · rw [if_neg hx] at H
                  have hx2 : decide (x ≤ most) = false := decide_eq_false hx
                  clear hx
                  obtain rfl := Option.some.inj H
                  go_wp2
                  go_end0
                  exact ⟨rfl, HO.out, HT.out, HB.out⟩
          · have hx1 : x0 = rd l (wrap64 ((l.length : Int) - 1)) := by rw [HX.out, if_neg h0]
            have hd0 : (0 < l.length) = True := eq_true (by omega)
            have hlt := HLT.out
            have hw : wrap64 ((l.length : Int) - 1) = (l.length : Int) - 1 := by unfold wrap64; omega
            have p0 : 0 ≤ wrap64 ((l.length : Int) - 1) := by rw [hw]; omega
            have q0 : wrap64 ((l.length : Int) - 1) < (l.length : Int) := by rw [hw]; omega
            obtain ⟨ad, eA, hcell⟩ := Kd.at_int HC.out.2.2 _ p0 q0
            clear h0 hw hlt HX
            subst hx1
            cases eA
            have p1 := eq_true p0
            have q1 := eq_true q0
            clear p0 q0
            go_enter Try.func65, Try.ntmps65
            go_wp2
            clear hm2 hd0 p1 q1 hcell
            go_loopg [11] k (fun kq v8 wr => ∃ (x : Int) (st1 : List (List Int)), v8 = .int .i64 x ∧ Aside0 (spec_prLists.go k0 people most total kq (some x) st1 l = some st') ∧ Aside0 (kq ≤ k) ∧ Aside0 (spec_prLists.Out G w0.heap.size st1 wr) ∧ Aside0 (Kd.R (Kd.int .i64) 3 wr w0.heap.size (fun _ => True) (.slice (some ad) l.length c) l) ∧ Aside0 (spec_prLists.Stay w wr) ∧ Aside0 (Below w0.heap.size w0 wr))
            case atStart => exact ⟨_, st, rfl, HH, ⟨Nat.le_refl _⟩, HO, HL, ⟨spec_prLists.Stay.refl _⟩, HB⟩
            case round =>
              clear HO HL HB HH HC
              obtain ⟨x, st1, rfl, HA, HKk, HO, HL, HT, HB⟩ := hrel
              cases gk with
              | zero => exact absurd HA.out (by simp [spec_prLists.go])
              | succ k1 =>
                have H := HA.out
                clear HA
                rw [spec_prLists.go] at H
                by_cases hx : x ≤ most
                · rw [if_pos hx] at H
                  obtain ⟨st2, A10, H⟩ := Option.bind_eq_some_iff.mp H
                  obtain ⟨y, hy⟩ : ∃ y, y = l ++ [x] := ⟨_, rfl⟩
                  rw [← hy] at A10
                  have HY := Aside0.mk hy
                  clear hy
                  have A1 := Aside0.mk A10
                  clear A10
                  have HH := Aside0.mk H
                  clear H
                  have hx2 : decide (x ≤ most) = true := decide_eq_true hx
                  clear hx
                  have hlt := HLT.out
                  go_wp2_with (first | (go_at_call 77; refine (spec_l1Own.calls (some ad) c l l _ (Kd.R_reads' HL.out).2.2 (Kd.R_reads' HL.out).2.1 (spec_prLists.own l hlt)).mono ?_; rintro e wa ⟨va, rfl, ho, hb⟩; have HOa := Aside0.mk ho; have HBr := Aside0.mk hb; clear hb ho) | ((with_reducible refine gate_builtin (b := .append) (xs := #[.tmp 45, .tmp 47]) rfl ?_); at_builtin; refine Kd.R_append (Kd.int .i64) (w0 := wr) wr.heap.size rfl (.tmp 45) (.tmp 47) 22 3 (.int .i64 0) 8 rfl Try.underlying22 spec_prLists.info rfl (by decide) (by omega) va l x [.int .i64 x] (fun _ => True) (fun _ => False) rfl rfl ?aP (fun _ hk => hk.elim) ?aF ?aO ?aB ?aS ?aL ?_; (case aP => exact rfl); (case aB => exact HBr.out); (case aF => exact (fun _ _ => trivial)); (case aO => exact HOa.out); (case aS => exact below_size HBr.out); (case aL => omega); intro v48 w12 ho hb hg hat; rw [← HY.out] at ho; have HO8 := Aside0.mk (Kd.R_lower ho (below_size HB.out)); replace HO := Aside0.mk (HO.out.below hb); replace HL := Aside0.mk (Kd.R_below HL.out hb); replace HT := Aside0.mk (HT.out.trans (spec_prLists.Stay.of_below hb)); replace HB := Aside0.mk (below_step HB.out hb); clear ho hb hg hat HOa HBr; obtain ⟨A48, c48, e48⟩ := Kd.R_slice HO8.out; subst e48) | (go_at_call 65; refine (IH.out k1 (by have := HKk.out; omega) st1 y st2 _ (.slice A48 y.length c48) A1.out HB.out HO.out HO8.out).mono ?_; clear IH; rintro e w14 ⟨rfl, ho, hst, hb⟩; replace HO := Aside0.mk ho; replace HL := Aside0.mk (spec_prLists.keepR HL.out hst); replace HT := Aside0.mk (HT.out.trans hst); replace HB := Aside0.mk hb; clear ho hst hb HO8))
                  go_roundg k1
                  case measure => have := HKk.out; omega
                  case rel => exact ⟨_, st2, rfl, HH, ⟨by have := HKk.out; omega⟩, HO, HL, HT, HB⟩
                · rw [if_neg hx] at H
                  have hx2 : decide (x ≤ most) = false := decide_eq_false hx
                  clear hx
                  obtain rfl := Option.some.inj H
                  go_wp2
                  go_end0
                  exact ⟨rfl, HO.out, HT.out, HB.out⟩

/-! ### spec_CountPairLists: function 40 -/
def spec_CountPairLists.f (k : Nat) (a0 a1 a2 : Int) : Option (Int × Bool) := (spec_prAsked.f a0 a1 a2).bind fun t => if t = true then (spec_prLists.go k a0 a1 a2 k none [] []).bind fun st => some ((st.length : Int), true) else some (0, false)
set_option maxHeartbeats 8000000 in
set_option maxRecDepth 100000 in
theorem spec_CountPairLists.calls (k : Nat) (a0 : Int) (a1 : Int) (a2 : Int) (r1 : Int) (r2 : Bool) (w : World) (h : spec_CountPairLists.f k a0 a1 a2 = some (r1, r2)) :
    Calls Try.prog 40 #[.int .i64 a0, .int .i64 a1, .int .i64 a2] w fun e w' => e = .returned (.tuple #[.int .i64 r1, .bool r2]) ∧ Below w.heap.size w w' := by
  have HB := Aside0.mk (Below.refl w.heap.size w)
  have H : ((spec_prAsked.f a0 a1 a2).bind fun t => if t = true then (spec_prLists.go k a0 a1 a2 k none [] []).bind fun st => some ((st.length : Int), true) else some (0, false)) = some (r1, r2) := h
  clear h
  obtain ⟨t, A20, H⟩ := Option.bind_eq_some_iff.mp H
  have A2 := Aside0.mk A20
  clear A20
  cases t with
  | false =>
    simp only [Bool.false_eq_true, if_false, Option.some.injEq, Prod.mk.injEq] at H
    obtain ⟨rfl, rfl⟩ := H
    go_enter Try.func40, Try.ntmps40
    go_wp2_with (go_at_call 64; refine (spec_prAsked.calls a0 a1 a2 false _ A2.out).mono ?_; rintro e w5 ⟨rfl, hd⟩; have hb := hd.below; clear hd; replace HB := Aside0.mk (below_step HB.out hb); clear hb)
    go_ret2
    exact ⟨rfl, HB.out⟩
  | true =>
    simp only [if_true] at H
    obtain ⟨st, A30, H⟩ := Option.bind_eq_some_iff.mp H
    have A3 := Aside0.mk A30
    clear A30
    have HH := Aside0.mk H
    clear H
    go_enter Try.func40, Try.ntmps40
    go_wp2_with (first | (go_at_call 64; refine (spec_prAsked.calls a0 a1 a2 true _ A2.out).mono ?_; rintro e w5 ⟨rfl, hd⟩; have hb := hd.below; clear hd; replace HB := Aside0.mk (below_step HB.out hb); clear hb) | ((with_reducible refine gate_dst (N := 8) rfl ?_); refine box_event ?hg (N := 8) ?hd (cs := #[.slice none 0 0]) (t := 42) ?hr ?_; (case hd => rfl); (case hg => rfl); (case hr => first | (go_simp; done) | (go_simp; rfl)); intro g8 hg w6 hbox hb; have X8 := Aside0.mk hbox; have GX8 := Aside0.mk ((by rw [hg]; exact below_size HB.out) : w.heap.size ≤ g8); replace HB := Aside0.mk (below_step HB.out hb); clear hb hbox hg) | (go_at_call 65; refine (spec_prLists.on k a0 a1 a2 g8 w GX8.out k [] [] st _ (.slice none 0 0) A3.out HB.out ⟨_, X8.out, Kd.S_nil _ _ _ _ _⟩ (Kd.R_nil _ _ _ _ _)).mono ?_; rintro e w9 ⟨rfl, ⟨v9, hv9, hs9⟩, hst, hb9⟩; replace HB := Aside0.mk hb9; clear hst hb9; obtain ⟨A9, c9, e9⟩ := Kd.S_slice hs9; subst e9; have hz9 : w9.cell? ⟨g8, 0, none⟩ = some (.slice A9 st.length c9) := (blk_cell hv9 0).trans rfl; have HS := Aside0.mk hs9; clear hv9 hs9))
    have H := HH.out
    simp only [Option.some.injEq, Prod.mk.injEq] at H
    obtain ⟨rfl, rfl⟩ := H
    go_ret2
    exact ⟨rfl, HB.out⟩

/-! ### laws_FnExactCountPairLists: function 17 -/
theorem laws_FnExactCountPairLists.newR {α : Type} {d : Kd α} {e T : Nat} {w W W' : World} {v : Value} {xs : List α} (h : d.R e W' W.heap.size (fun _ => True) v xs) (ht : T ≤ W.heap.size) (hw : w.heap.size ≤ W.heap.size) (hs : W.heap.size ≤ W'.heap.size) : ∃ lo hi : Nat, (T ≤ lo ∧ lo ≤ hi) ∧ hi ≤ W'.heap.size ∧ d.R e W' w.heap.size (fun k_ => lo ≤ k_ ∧ k_ < hi) v xs :=
  ⟨W.heap.size, W'.heap.size, ⟨ht, hs⟩, Nat.le_refl _, Kd.R_lower (Kd.R_mono (Kd.R_bound h) (fun _ hk => ⟨hk.2.1, hk.2.2.1⟩)) hw⟩
theorem laws_FnExactCountPairLists.newS {α : Type} {d : Kd α} {e T : Nat} {w W W' : World} {v : Value} {xs : List α} (h : Kd.S d e W' W.heap.size (fun _ => True) v xs) (ht : T ≤ W.heap.size) (hw : w.heap.size ≤ W.heap.size) (hs : W.heap.size ≤ W'.heap.size) : ∃ lo hi : Nat, (T ≤ lo ∧ lo ≤ hi) ∧ hi ≤ W'.heap.size ∧ Kd.S d e W' w.heap.size (fun k_ => lo ≤ k_ ∧ k_ < hi) v xs :=
  ⟨W.heap.size, W'.heap.size, ⟨ht, hs⟩, Nat.le_refl _, Kd.S_lower (Kd.S_mono (Kd.S_bound h) (fun _ hk => ⟨hk.2.1, hk.2.2.1⟩)) hw⟩
theorem laws_FnExactCountPairLists.newN {α : Type} {d : Kd α} {e T : Nat} {w W W' : World} {v : Value} {xs : List α} (h : Kd.N d e W' W.heap.size (fun k_ => W.heap.size ≤ k_) v xs) (ht : T ≤ W.heap.size) (hw : w.heap.size ≤ W.heap.size) (hs : W.heap.size ≤ W'.heap.size) : ∃ lo hi : Nat, (T ≤ lo ∧ lo ≤ hi) ∧ hi ≤ W'.heap.size ∧ Kd.N d e W' w.heap.size (fun k_ => lo ≤ k_ ∧ k_ < hi) v xs :=
  ⟨W.heap.size, W'.heap.size, ⟨ht, hs⟩, Nat.le_refl _, Kd.N_lower (Kd.N_mono (Kd.N_bound h) (fun _ hk => hk)) hw⟩
theorem laws_FnExactCountPairLists.grownN {α : Type} {d : Kd α} {e b lo hi g : Nat} {W W' : World} {v : Value} {xs : List α} (h : Kd.N d e W b (fun k_ => lo ≤ k_ ∧ k_ < hi) v xs) (hg : W.grownBy W' (some g)) (hne : g < lo ∨ hi ≤ g) : Kd.N d e W' b (fun k_ => lo ≤ k_ ∧ k_ < hi) v xs :=
  Kd.N_grown h hg (fun k hk he => by injection he with he; have h1 := hk.1; have h2 := hk.2; omega)
theorem laws_FnExactCountPairLists.keptN {α : Type} {d : Kd α} {e b lo hi lo' hi' : Nat} {W W' : World} {v : Value} {xs : List α} (h : Kd.N d e W b (fun k_ => lo ≤ k_ ∧ k_ < hi) v xs) (hk : Kept W W' (fun k_ => lo' ≤ k_ ∧ k_ < hi')) (hne : hi ≤ lo' ∨ hi' ≤ lo) : Kd.N d e W' b (fun k_ => lo ≤ k_ ∧ k_ < hi) v xs :=
  Kd.N_kept h hk (fun k h1 h2 => by have h3 := h1.1; have h4 := h1.2; have h5 := h2.1; have h6 := h2.2; omega)
theorem laws_FnExactCountPairLists.grownR {α : Type} {d : Kd α} {e b lo hi g : Nat} {W W' : World} {v : Value} {xs : List α} (h : d.R e W b (fun k_ => lo ≤ k_ ∧ k_ < hi) v xs) (hg : W.grownBy W' (some g)) (hne : g < lo ∨ hi ≤ g) : d.R e W' b (fun k_ => lo ≤ k_ ∧ k_ < hi) v xs :=
  Kd.R_grown h hg (fun k hk he => by injection he with he; have h1 := hk.1; have h2 := hk.2; omega)
theorem laws_FnExactCountPairLists.grownS {α : Type} {d : Kd α} {e b lo hi g : Nat} {W W' : World} {v : Value} {xs : List α} (h : Kd.S d e W b (fun k_ => lo ≤ k_ ∧ k_ < hi) v xs) (hg : W.grownBy W' (some g)) (hne : g < lo ∨ hi ≤ g) : Kd.S d e W' b (fun k_ => lo ≤ k_ ∧ k_ < hi) v xs :=
  Kd.S_grown h hg (fun k hk he => by injection he with he; have h1 := hk.1; have h2 := hk.2; omega)
theorem laws_FnExactCountPairLists.keptR {α : Type} {d : Kd α} {e b lo hi lo' hi' : Nat} {W W' : World} {v : Value} {xs : List α} (h : d.R e W b (fun k_ => lo ≤ k_ ∧ k_ < hi) v xs) (hk : Kept W W' (fun k_ => lo' ≤ k_ ∧ k_ < hi')) (hne : hi ≤ lo' ∨ hi' ≤ lo) : d.R e W' b (fun k_ => lo ≤ k_ ∧ k_ < hi) v xs :=
  Kd.R_kept h hk (fun k h1 h2 => by have h3 := h1.1; have h4 := h1.2; have h5 := h2.1; have h6 := h2.2; omega)
theorem laws_FnExactCountPairLists.keptS {α : Type} {d : Kd α} {e b lo hi lo' hi' : Nat} {W W' : World} {v : Value} {xs : List α} (h : Kd.S d e W b (fun k_ => lo ≤ k_ ∧ k_ < hi) v xs) (hk : Kept W W' (fun k_ => lo' ≤ k_ ∧ k_ < hi')) (hne : hi ≤ lo' ∨ hi' ≤ lo) : Kd.S d e W' b (fun k_ => lo ≤ k_ ∧ k_ < hi) v xs :=
  Kd.S_kept h hk (fun k h1 h2 => by have h3 := h1.1; have h4 := h1.2; have h5 := h2.1; have h6 := h2.2; omega)
theorem laws_FnExactCountPairLists.keptB {lo hi g : Nat} {o : Obj} {W W' : World} (h : W.heap[g]? = some o) (hk : Kept W W' (fun k_ => lo ≤ k_ ∧ k_ < hi)) (hne : g < lo ∨ hi ≤ g) : W'.heap[g]? = some o :=
  blk_kept h hk (fun h2 => by have h5 := h2.1; have h6 := h2.2; omega)
theorem laws_FnExactCountPairLists.grownB {g g' : Nat} {o : Obj} {W W' : World} (h : W.heap[g]? = some o) (hg : W.grownBy W' (some g')) (hne : g ≠ g') : W'.heap[g]? = some o :=
  (hg.block g (blk_lt h) (fun he => hne (by injection he))).trans h
theorem laws_FnExactCountPairLists.runs {P : Program} {W : World} {g T : Nat} {cur : Array Value} (t : TypeId) (u : Value) (new : List Value) (hb : W.heap[g]? = some (.cells cur T (0, 0))) (hu : u.cells.toList = new) (ht : (P.info? t).map (·.size) = some new.length) (hsz : new.length = cur.size) (h1 : ∀ q ∈ new, q.oneCell' = true) :
    ∃ w1, (Instr.storeAt t (.pointer (some ⟨g, 0, none⟩)) u).run P W = .ok () w1 ∧ w1.heap[g]? = some (.cells new.toArray T (0, 0)) ∧ W.grownBy w1 (some g) := by
  refine ⟨W.setCells g 0 new, run_store_run t u new hb hu ht (by omega) h1, ?_, ?_⟩
  · obtain ⟨cur', c1, c2, c3⟩ := setCells_row new 0 W cur hb (by omega)
    rw [c1]
    rw [List.take_zero, List.nil_append, Nat.zero_add, hsz, List.drop_eq_nil_of_le (by rw [Array.length_toList]; omega), List.append_nil] at c3
    rw [← c3]
  · obtain ⟨s1, s2, s3, s4⟩ := setCells_same g new 0 W
    exact ⟨s1, s2, s3, by rw [s4]; exact Nat.le_refl _, fun k _ hk => setCells_far _ _ k (fun he => hk (by rw [he]))⟩
theorem laws_FnExactCountPairLists.store {P : Program} {ops : Array Oper} {rest : List Oper} {o : Oper} {a : Act} {Q : Exit → Act → World → Prop} {W : World} (hgd : o.guard = none) (hN : o.dst = none) {t : TypeId} {p : Tmp} {x : Operand} (ho : o.op = .store t (.tmp p) x) (g T : Nat) (cur : Array Value) (u : Value) (new : List Value) (haddr : a.eval (.tmp p) = .pointer (some ⟨g, 0, none⟩)) (hx : a.eval x = u) (hb : W.heap[g]? = some (.cells cur T (0, 0))) (hu : u.cells.toList = new) (ht : (P.info? t).map (·.size) = some new.length) (hsz : new.length = cur.size) (h1 : ∀ q ∈ new, q.oneCell' = true)
    (h : ∀ w1, w1.heap[g]? = some (.cells new.toArray T (0, 0)) → W.grownBy w1 (some g) → wpList P ops Q rest a w1) : wpList P ops Q (o :: rest) a W := by
  obtain ⟨w1, hrun, h2, h3⟩ := laws_FnExactCountPairLists.runs (P := P) t u new hb hu ht hsz h1
  refine wpList_plain hgd fun K hK => ?_
  unfold Oper.wp execOp
  simp only [ho, haddr, hx, Sem.run_bind, Sem.run_pure, Result.andThen_ok, hrun]
  show K (a.put o.dst undef) _
  rw [hN]
  exact hK _ _ (h w1 h2 h3)
theorem laws_FnExactCountPairLists.storeK {P : Program} {ops : Array Oper} {o : Oper} {a : Act} {Q : Exit → Act → World → Prop} {Kc : Act → World → Prop} {W : World} (hw : Region.wanted o (yielded ops a.tmps) = true) (hN : o.dst = none) {t : TypeId} {p : Tmp} {x : Operand} (ho : o.op = .store t (.tmp p) x) (g T : Nat) (cur : Array Value) (u : Value) (new : List Value) (haddr : a.eval (.tmp p) = .pointer (some ⟨g, 0, none⟩)) (hx : a.eval x = u) (hb : W.heap[g]? = some (.cells cur T (0, 0))) (hu : u.cells.toList = new) (ht : (P.info? t).map (·.size) = some new.length) (hsz : new.length = cur.size) (h1 : ∀ q ∈ new, q.oneCell' = true)
    (h : ∀ w1, w1.heap[g]? = some (.cells new.toArray T (0, 0)) → W.grownBy w1 (some g) → Kc a w1) : if Region.wanted o (yielded ops a.tmps) = true then Oper.wp P o a W Kc Q else Kc (a.put none undef) W := by
  obtain ⟨w1, hrun, h2, h3⟩ := laws_FnExactCountPairLists.runs (P := P) t u new hb hu ht hsz h1
  rw [if_pos hw]
  unfold Oper.wp execOp
  simp only [ho, haddr, hx, Sem.run_bind, Sem.run_pure, Result.andThen_ok, hrun]
  show Kc (a.put o.dst undef) _
  rw [hN]
  exact h w1 h2 h3
def laws_FnExactCountPairLists.f (k : Nat) (a0 : Int) (a1 : Int) (a2 : Int) : Option Bool := (spec_CountPairLists.f k a0 a1 a2).bind fun b1 => ((impl_CountPairLists.f k a0 a1 a2).bind fun b4 => (if b4.1 = b1.1 then (if (b4.2 != b1.2) = true then none else (some true)) else none))
set_option maxHeartbeats 16000000 in
set_option maxRecDepth 100000 in
theorem laws_FnExactCountPairLists.calls (k : Nat) (a0 : Int) (a1 : Int) (a2 : Int) (r : Bool) (w : World)  (h : laws_FnExactCountPairLists.f k a0 a1 a2 = some r) :
    Calls Try.prog 17 #[.int .i64 a0, .int .i64 a1, .int .i64 a2] w fun e w' => e = .returned (.bool r) ∧ Below w.heap.size w w' := by
  have HB := Aside0.mk (Below.refl w.heap.size w)
  have HT := Aside0.mk (Nat.le_refl w.heap.size)
  have HN := Aside0.mk trivial
  have H := h
  unfold laws_FnExactCountPairLists.f at H
  clear h
  obtain ⟨⟨t2, t3⟩, AQ1_, H⟩ := Option.bind_eq_some_iff.mp H
  have AQ1 := Aside0.mk AQ1_
  clear AQ1_
  (try dsimp only at AQ1 H)
  obtain ⟨⟨t5, t6⟩, AQ4_, H⟩ := Option.bind_eq_some_iff.mp H
  have AQ4 := Aside0.mk AQ4_
  clear AQ4_
  (try dsimp only at AQ4 H)
  by_cases c7 : t5 = t2
  rotate_left
  · rw [if_neg c7] at H; cases H
  rw [if_pos c7] at H
  have c7b0 : (t5 == t2) = true := beq_iff_eq.mpr c7
  have c7b1 : (t5 != t2) = false := bne_eq_false_iff_eq.mpr c7
  clear c7
  by_cases c8 : (t6 != t3) = true
  · rw [if_pos c8] at H; cases H
  rw [if_neg c8] at H
  have c8b0 : (t6 != t3) = false := by simpa using c8
  have c8b1 : decide (t6 = t3) = true := by simpa using c8
  have c8b2 : (t6 == t3) = true := by simpa using c8
  clear c8
  obtain rfl := Option.some.inj H
  clear H
  go_enter Try.func17, Try.ntmps17
  try go_wp2_with (first | ((with_reducible refine gate_dst (N := 15) rfl ?_); refine goesL_ (some 15) rfl rfl Try.func40 (by kernel_rfl) rfl #[.int .i64 a0, .int .i64 a1, .int .i64 a2] rfl (by (try simp only [List.map_toArray, List.map_cons, List.map_nil]); first | done | rfl) ?_; (with_reducible refine (spec_CountPairLists.calls k a0 a1 a2 t2 t3 _  AQ1.out).mono ?_); rintro e W1 ⟨rfl, hb⟩; refine ⟨_, rfl, ?_⟩; replace HB := Aside0.mk (below_step HB.out hb); replace HT := Aside0.mk (Nat.le_trans HT.out hb.size); clear hb) | ((with_reducible refine gate_dst (N := 22) rfl ?_); refine goesL_ (some 22) rfl rfl Try.func39 (by kernel_rfl) rfl #[.int .i64 a0, .int .i64 a1, .int .i64 a2] rfl (by (try simp only [List.map_toArray, List.map_cons, List.map_nil]); first | done | rfl) ?_; (with_reducible refine (impl_CountPairLists.calls k a0 a1 a2 t5 t6 _  AQ4.out).mono ?_); rintro e W2 ⟨rfl, hb⟩; refine ⟨_, rfl, ?_⟩; replace HB := Aside0.mk (below_step HB.out hb); replace HT := Aside0.mk (Nat.le_trans HT.out hb.size); clear hb))
  go_ret
  exact ⟨by first | rfl | (simp; done) | (simp [*]; done), HB.out⟩

/-! ### laws_eqIntS: function 22 -/
def laws_eqIntS.l0 : Nat → List Int → List Int → Int → Option (Bool)
  | 0, _, _, _ => none
  | k + 1, x0, x1, x5 => if x5 < (x0.length : Int) then (if 0 ≤ x5 then (if x5 < (x1.length : Int) then (if (rd x0 x5) = (rd x1 x5) then (laws_eqIntS.l0 k x0 x1 (wrap64 (x5 + 1))) else (some false)) else (none)) else (none)) else (some true)
def laws_eqIntS.f (k : Nat) (l0 : List Int) (l1 : List Int) : Option (Bool) := if (l0.length : Int) = (l1.length : Int) then (laws_eqIntS.l0 k l0 l1 0) else (some false)
set_option maxHeartbeats 8000000 in
set_option maxRecDepth 100000 in
theorem laws_eqIntS.calls (k : Nat) (A0 : Option Addr) (c0 : Nat) (l0 : List Int) (A1 : Option Addr) (c1 : Nat) (l1 : List Int) (r : Bool) (w : World) (hr0 : Kd.C (Kd.int .i64) w A0 l0.length l0) (hc0 : l0.length ≤ c0) (hr1 : Kd.C (Kd.int .i64) w A1 l1.length l1) (hc1 : l1.length ≤ c1) (h : laws_eqIntS.f k l0 l1 = some r) :
    Calls Try.prog 22 #[.slice A0 l0.length c0, .slice A1 l1.length c1] w fun e w' => e = .returned (.bool r) ∧ Drawn0 w w' := by
  have HR0 := Aside0.mk hr0
  have HC0 := Aside0.mk hc0
  clear hr0 hc0
  have HR1 := Aside0.mk hr1
  have HC1 := Aside0.mk hc1
  clear hr1 hc1
  have H : (if (l0.length : Int) = (l1.length : Int) then (laws_eqIntS.l0 k l0 l1 0) else (some false)) = some r := h
  clear h
  by_cases c3 : (l0.length : Int) = (l1.length : Int)
  · rw [if_pos c3] at H
    have c3b0 : ((l0.length : Int) == (l1.length : Int)) = true := beq_iff_eq.mpr c3
    have c3b1 : ((l0.length : Int) != (l1.length : Int)) = false := bne_eq_false_iff_eq.mpr c3
    have c3b2 : (l0.length == l1.length) = true := by first | simpa using c3 | (simp at c3 ⊢; omega)
    clear c3
    have H' := Aside0.mk H
    clear H
    go_enter Try.func22, Try.ntmps22
    go_wp2
    repeat (go_quiet (fail); try go_wp2)
    go_loopg [5] k (fun kq v5 w' => ∃ (x5_1 : Int), v5 = .int .i64 x5_1 ∧ Aside0 (laws_eqIntS.l0 kq l0 l1 x5_1 = some r) ∧ Aside0 (kq ≤ k) ∧ Drawn0 w w')
    case atStart => exact ⟨(0), (by first | rfl | (simp; done) | (simp [*]; done)), H', ⟨Nat.le_refl _⟩, by repeat (first | exact Drawn0.refl _ | apply Drawn0.step)⟩
    case round =>
      clear H'
      try clear c1
      try clear c2
      try clear p2
      try clear c3
      try clear c3b0
      try clear c3b1
      try clear c3b2
      obtain ⟨x5_1, rfl, HA, HK1, ⟨m1, rfl⟩⟩ := hrel
      cases gk with
      | zero => exact absurd HA.out (by simp [laws_eqIntS.l0])
      | succ k1 =>
        have H := HA.out
        clear HA
        simp only [laws_eqIntS.l0] at H
        by_cases c4 : x5_1 < (l0.length : Int)
        · rw [if_pos c4] at H
          have c4b0 : decide (x5_1 < (l0.length : Int)) = true := decide_eq_true c4
          clear c4
          by_cases c5 : 0 ≤ x5_1
          · rw [if_pos c5] at H
            have c5b0 : decide (0 ≤ x5_1) = true := decide_eq_true c5
            clear c5
            by_cases c6 : x5_1 < (l1.length : Int)
            · rw [if_pos c6] at H
              have c6b0 : decide (x5_1 < (l1.length : Int)) = true := decide_eq_true c6
              clear c6
              by_cases c7 : (rd l0 x5_1) = (rd l1 x5_1)
              · rw [if_pos c7] at H
                have c7b0 : ((rd l0 x5_1) == (rd l1 x5_1)) = true := beq_iff_eq.mpr c7
                have c7b1 : ((rd l0 x5_1) != (rd l1 x5_1)) = false := bne_eq_false_iff_eq.mpr c7
                clear c7
                have H' := Aside0.mk H
                clear H
                have p255 : 0 ≤ (x5_1 : Int) := of_decide_eq_true (by first | (with_reducible assumption) | assumption)
                have q255 : x5_1 < (l0.length : Int) := of_decide_eq_true (by first | (with_reducible assumption) | assumption)
                obtain ⟨ad255, e255, hx255_0⟩ := Kd.at_int HR0.out x5_1 p255 q255
                cases e255
                replace p255 := eq_true p255
                replace q255 := eq_true q255
                have p256 : 0 ≤ (x5_1 : Int) := of_decide_eq_true (by first | (with_reducible assumption) | assumption)
                have q256 : x5_1 < (l1.length : Int) := of_decide_eq_true (by first | (with_reducible assumption) | assumption)
                obtain ⟨ad256, e256, hx256_0⟩ := Kd.at_int HR1.out x5_1 p256 q256
                cases e256
                replace p256 := eq_true p256
                replace q256 := eq_true q256
                go_wp2
                repeat (go_quiet (fail); try go_wp2)
                go_roundg k1
                case measure => have := HK1.out; omega
                case rel => exact ⟨(wrap64 (x5_1 + 1)), (by first | rfl | (simp; done) | (simp [*]; done)), H', ⟨by have := HK1.out; omega⟩, by repeat (first | exact Drawn0.refl _ | apply Drawn0.step)⟩
              · rw [if_neg c7] at H
                have c7b0 : ((rd l0 x5_1) == (rd l1 x5_1)) = false := beq_eq_false_iff_ne.mpr c7
                have c7b1 : ((rd l0 x5_1) != (rd l1 x5_1)) = true := bne_iff_ne.mpr c7
                obtain rfl := Option.some.inj H
                have p255 : 0 ≤ (x5_1 : Int) := of_decide_eq_true (by first | (with_reducible assumption) | assumption)
                have q255 : x5_1 < (l0.length : Int) := of_decide_eq_true (by first | (with_reducible assumption) | assumption)
                obtain ⟨ad255, e255, hx255_0⟩ := Kd.at_int HR0.out x5_1 p255 q255
                cases e255
                replace p255 := eq_true p255
                replace q255 := eq_true q255
                have p256 : 0 ≤ (x5_1 : Int) := of_decide_eq_true (by first | (with_reducible assumption) | assumption)
                have q256 : x5_1 < (l1.length : Int) := of_decide_eq_true (by first | (with_reducible assumption) | assumption)
                obtain ⟨ad256, e256, hx256_0⟩ := Kd.at_int HR1.out x5_1 p256 q256
                cases e256
                replace p256 := eq_true p256
                replace q256 := eq_true q256
                go_wp2
                repeat (go_quiet (fail); try go_wp2)
                go_ret
                exact ⟨by first | rfl | (simp; done) | (simp [*]; done), by repeat (first | exact Drawn0.refl _ | apply Drawn0.step)⟩
            · rw [if_neg c6] at H
              exact absurd H (by simp)
          · rw [if_neg c5] at H
            exact absurd H (by simp)
        · rw [if_neg c4] at H
          have c4b0 : decide (x5_1 < (l0.length : Int)) = false := decide_eq_false c4
          clear c4
          obtain rfl := Option.some.inj H
          go_wp2
          repeat (go_quiet (fail); try go_wp2)
          go_ret
          exact ⟨by first | rfl | (simp; done) | (simp [*]; done), by repeat (first | exact Drawn0.refl _ | apply Drawn0.step)⟩
  · rw [if_neg c3] at H
    have c3b0 : ((l0.length : Int) == (l1.length : Int)) = false := beq_eq_false_iff_ne.mpr c3
    have c3b1 : ((l0.length : Int) != (l1.length : Int)) = true := bne_iff_ne.mpr c3
    have c3b2 : (l0.length == l1.length) = false := by first | simpa using c3 | (simp at c3 ⊢; omega)
    obtain rfl := Option.some.inj H
    go_enter Try.func22, Try.ntmps22
    go_wp2
    repeat (go_quiet (fail); try go_wp2)
    go_ret
    exact ⟨by first | rfl | (simp; done) | (simp [*]; done), by repeat (first | exact Drawn0.refl _ | apply Drawn0.step)⟩

/-! ### spec_FirstPairList: function 23 -/
def spec_FirstPairList.f (k : Nat) (a0 a1 a2 : Int) : Option (List Int × Bool) := (spec_prAsked.f a0 a1 a2).bind fun t => if t = true then (spec_prLists.go k a0 a1 a2 k none [] []).bind fun st => if st.length = 0 then some ([], false) else some (st.getD 0 [], true) else some ([], false)
set_option maxHeartbeats 8000000 in
set_option maxRecDepth 100000 in
theorem spec_FirstPairList.calls (k : Nat) (a0 : Int) (a1 : Int) (a2 : Int) (r1 : List Int) (r2 : Bool) (w : World) (h : spec_FirstPairList.f k a0 a1 a2 = some (r1, r2)) :
    Calls Try.prog 23 #[.int .i64 a0, .int .i64 a1, .int .i64 a2] w fun e w' => ∃ v0_ : Value, e = .returned (.tuple #[v0_, .bool r2]) ∧ Kd.R (Kd.int .i64) 3 w' w.heap.size (fun _ => True) v0_ r1 ∧ Below w.heap.size w w' := by
  have HB := Aside0.mk (Below.refl w.heap.size w)
  have H : ((spec_prAsked.f a0 a1 a2).bind fun t => if t = true then (spec_prLists.go k a0 a1 a2 k none [] []).bind fun st => if st.length = 0 then some ([], false) else some (st.getD 0 [], true) else some ([], false)) = some (r1, r2) := h
  clear h
  obtain ⟨t, A20, H⟩ := Option.bind_eq_some_iff.mp H
  have A2 := Aside0.mk A20
  clear A20
  cases t with
  | false =>
    simp only [Bool.false_eq_true, if_false, Option.some.injEq, Prod.mk.injEq] at H
    obtain ⟨rfl, rfl⟩ := H
    go_enter Try.func23, Try.ntmps23
    go_wp2_with (go_at_call 64; refine (spec_prAsked.calls a0 a1 a2 false _ A2.out).mono ?_; rintro e w5 ⟨rfl, hd⟩; have hb := hd.below; clear hd; replace HB := Aside0.mk (below_step HB.out hb); clear hb)
    go_ret2
    exact ⟨_, rfl, Kd.R_nil _ _ _ _ _, HB.out⟩
  | true =>
    simp only [if_true] at H
    obtain ⟨st, A30, H⟩ := Option.bind_eq_some_iff.mp H
    have A3 := Aside0.mk A30
    clear A30
    rcases Nat.eq_zero_or_pos st.length with h0 | h0
    · have hd : ((st.length : Int) == 0) = true := by simpa using h0
      rw [if_pos h0] at H
      simp only [Option.some.injEq, Prod.mk.injEq] at H
      obtain ⟨rfl, rfl⟩ := H
      clear h0
      go_enter Try.func23, Try.ntmps23
      go_wp2_with (first | (go_at_call 64; refine (spec_prAsked.calls a0 a1 a2 true _ A2.out).mono ?_; rintro e w5 ⟨rfl, hd⟩; have hb := hd.below; clear hd; replace HB := Aside0.mk (below_step HB.out hb); clear hb) | ((with_reducible refine gate_dst (N := 8) rfl ?_); refine box_event ?hg (N := 8) ?hd (cs := #[.slice none 0 0]) (t := 42) ?hr ?_; (case hd => rfl); (case hg => rfl); (case hr => first | (go_simp; done) | (go_simp; rfl)); intro g8 hg w6 hbox hb; have X8 := Aside0.mk hbox; have GX8 := Aside0.mk ((by rw [hg]; exact below_size HB.out) : w.heap.size ≤ g8); replace HB := Aside0.mk (below_step HB.out hb); clear hb hbox hg) | (go_at_call 65; refine (spec_prLists.on k a0 a1 a2 g8 w GX8.out k [] [] st _ (.slice none 0 0) A3.out HB.out ⟨_, X8.out, Kd.S_nil _ _ _ _ _⟩ (Kd.R_nil _ _ _ _ _)).mono ?_; rintro e w9 ⟨rfl, ⟨v9, hv9, hs9⟩, hst, hb9⟩; replace HB := Aside0.mk hb9; clear hst hb9; obtain ⟨A9, c9, e9⟩ := Kd.S_slice hs9; subst e9; have hz9 : w9.cell? ⟨g8, 0, none⟩ = some (.slice A9 st.length c9) := (blk_cell hv9 0).trans rfl; have HS := Aside0.mk hs9; clear hv9 hs9))
      go_ret2
      exact ⟨_, rfl, Kd.R_nil _ _ _ _ _, HB.out⟩
    · have hd : ((st.length : Int) == 0) = false := beq_eq_false_iff_ne.mpr (by omega)
      rw [if_neg (by omega)] at H
      simp only [Option.some.injEq, Prod.mk.injEq] at H
      obtain ⟨rfl, rfl⟩ := H
      obtain ⟨y, hy⟩ : ∃ y, y = st.getD 0 [] := ⟨_, rfl⟩
      rw [← hy]
      have HY := Aside0.mk hy
      clear hy
      have H0 := Aside0.mk h0
      have p0 := eq_true (show (0 : Int) < (st.length : Int) by omega)
      have p1 := eq_true h0
      clear h0
      go_enter Try.func23, Try.ntmps23
      go_wp2_with (first | (go_at_call 64; refine (spec_prAsked.calls a0 a1 a2 true _ A2.out).mono ?_; rintro e w5 ⟨rfl, hd⟩; have hb := hd.below; clear hd; replace HB := Aside0.mk (below_step HB.out hb); clear hb) | ((with_reducible refine gate_dst (N := 8) rfl ?_); refine box_event ?hg (N := 8) ?hd (cs := #[.slice none 0 0]) (t := 42) ?hr ?_; (case hd => rfl); (case hg => rfl); (case hr => first | (go_simp; done) | (go_simp; rfl)); intro g8 hg w6 hbox hb; have X8 := Aside0.mk hbox; have GX8 := Aside0.mk ((by rw [hg]; exact below_size HB.out) : w.heap.size ≤ g8); replace HB := Aside0.mk (below_step HB.out hb); clear hb hbox hg) | (go_at_call 65; refine (spec_prLists.on k a0 a1 a2 g8 w GX8.out k [] [] st _ (.slice none 0 0) A3.out HB.out ⟨_, X8.out, Kd.S_nil _ _ _ _ _⟩ (Kd.R_nil _ _ _ _ _)).mono ?_; rintro e w9 ⟨rfl, ⟨v9, hv9, hs9⟩, hst, hb9⟩; replace HB := Aside0.mk hb9; clear hst hb9; obtain ⟨A9, c9, e9⟩ := Kd.S_slice hs9; subst e9; have hz9 : w9.cell? ⟨g8, 0, none⟩ = some (.slice A9 st.length c9) := (blk_cell hv9 0).trans rfl; have HS := Aside0.mk hs9; clear hv9 hs9; have h0 := H0.out; obtain ⟨ad, e8, _⟩ := (Kd.R_reads' (Kd.S_R HS.out)).2.2.2.2 h0; subst e8; obtain ⟨cc, hcl, hM, hcc⟩ := Kd.R_get (Kd.S_R HS.out) [] 0 (by omega) (by omega); obtain ⟨v0, hv0, hR0⟩ := hM; subst hv0; have hc0 := hcc 0 v0 rfl; have HR := Aside0.mk hR0; clear h0 hcc hcl hR0; obtain ⟨A0, c0, e0⟩ := Kd.R_slice HR.out; subst e0; have hcz : w9.cell? ad = some (.slice A0 y.length c0) := (by rw [HY.out]; exact hc0); have hy_ : st.getD (Int.toNat 0) [] = y := HY.out.symm; rw [hy_] at HR; clear hc0))
      go_ret2
      exact ⟨_, rfl, Kd.R_mono HR.out (fun _ _ => trivial), HB.out⟩

end Go.Proofs.Ytlmiojnkjlnmjaa.G
