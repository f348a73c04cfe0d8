-- Laid by wip/gprint.py (the session's own program, round the kit's printer) for this claim.
import Derived.Test.YtlmiojnkjlnmjaaGClx0
import Derived.Test.YtlmiojnkjlnmjaaGClx1
import Derived.Test.YtlmiojnkjlnmjaaGClx4
import Derived.Test.YtlmiojnkjlnmjaaGClx6
namespace Go.Proofs.Ytlmiojnkjlnmjaa.G
open Go.RowKit Go.Proofs.YtlmiojnkjlnmjaaW.PrintWords Go.Proofs.YtlmiojnkjlnmjaaW.PrintLast Go.Proofs.YtlmiojnkjlnmjaaW.PrintMore
attribute [local go_sem] max2_int min2_int max_two min_two max_three min_three max_four min_four   -- for this text's walks alone
set_option linter.unusedVariables false
set_option linter.unusedSimpArgs false

/-! ### impl_FirstPairList: function 24 -/
def impl_FirstPairList.E (k : Nat) (total : Int) (st : Option (List Int)) (l : List Int) : Option (Bool × Option (List Int)) := if 0 < l.length then (impl_pairTime.f k l).bind fun t => some (if t = total then (false, some l) else (decide (st = none), st)) else none
def impl_FirstPairList.f (k : Nat) (a0 a1 a2 : Int) : Option (List Int × Bool) := (impl_isAsked.f a0 a1 a2).bind fun t => if t = true then (impl_notFalling.go (impl_FirstPairList.E k a2) a0 a1 k none none []).bind fun p => some (p.2.getD [], p.2.isSome) else some ([], false)
/-- What the variable holds: nothing yet, or a list of the call's own. -/
def impl_FirstPairList.Out (G B5 N0 : Nat) (total : Int) (st : Option (List Int)) (W : World) : Prop :=
  (match st with
    | none => W.heap[G]? = some (.cells #[.slice none 0 0] 22 (0, 0))
    | some l => ∃ a c, W.heap[G]? = some (.cells #[.slice (some a) l.length c] 22 (0, 0)) ∧ Kd.R (Kd.int .i64) 3 W N0 (fun _ => True) (.slice (some a) l.length c) l) ∧ W.heap[B5]? = some (.cells #[.int .i64 total] 3 (0, 0))
theorem impl_FirstPairList.Out.below {G B5 N0 : Nat} {total : Int} {st : Option (List Int)} {W W' : World} (h : impl_FirstPairList.Out G B5 N0 total st W) (hb : Below W.heap.size W W') : impl_FirstPairList.Out G B5 N0 total st W' := by
  obtain ⟨h1, h2⟩ := h
  refine ⟨?_, blk_below (g := B5) h2 hb⟩
  cases st with
  | none => exact blk_below (g := G) h1 hb
  | some l =>
    obtain ⟨a, c, h3, h4⟩ := h1
    exact ⟨a, c, blk_below (g := G) h3 hb, Kd.R_below h4 hb⟩
set_option maxHeartbeats 8000000 in
set_option maxRecDepth 100000 in
theorem impl_FirstPairList.each (k : Nat) (total : Int) (st : Option (List Int)) (l : List Int) (t : Int) (G B5 N0 : Nat) (v : Value) (w : World) (hne : B5 ≠ G) (hGN : G < N0) (h0 : 0 < l.length) (h : impl_pairTime.f k l = some t) (ho : impl_FirstPairList.Out G B5 N0 total st w) (hl : Kd.R (Kd.int .i64) 3 w N0 (fun _ => True) v l) :
    Calls Try.prog 68 (#[v] ++ #[.pointer (some ⟨B5, 0, none⟩), .pointer (some ⟨G, 0, none⟩)]) w fun e w' => e = .returned (.bool (if t = total then false else decide (st = none))) ∧ impl_FirstPairList.Out G B5 N0 total (if t = total then some l else st) w' ∧ impl_notFalling.Kp G w w' := by
  obtain ⟨A, c, rfl⟩ := Kd.R_slice hl
  obtain ⟨a, rfl⟩ : ∃ a, A = some a := by
    have h1 := (Kd.R_reads' hl).2.2
    obtain ⟨a, ha, _⟩ := Kd.at_int h1 0 (by omega) (by omega)
    exact ⟨a, ha⟩
  show Calls Try.prog 68 #[.slice (some a) l.length c, .pointer (some ⟨B5, 0, none⟩), .pointer (some ⟨G, 0, none⟩)] w _
  obtain ⟨rb, hrb⟩ : ∃ rb, rb = (if t = total then false else decide (st = none)) := ⟨_, rfl⟩
  obtain ⟨sn, hsn⟩ : ∃ sn, sn = (if t = total then some l else st) := ⟨_, rfl⟩
  rw [← hrb, ← hsn]
  have HRB := Aside0.mk hrb
  have HSN := Aside0.mk hsn
  clear hrb hsn
  have HP := Aside0.mk h
  have HNE := Aside0.mk hne
  have HGN := Aside0.mk hGN
  have HL := Aside0.mk (Kd.R_drew hl)
  have HBr := Aside0.mk (below_drew1 (Below.refl w.heap.size w))
  have HO := Aside0.mk (ho.below HBr.out)
  clear h hne hGN ho hl h0
  have qT : ∀ (w : World) (a : Option Addr) (n c n' c' : Nat), (binOp .eql 22 (.slice a n c) (.slice none n' c')).run Try.prog w = .ok (.bool a.isNone) w := fun w a n c n' c' => Lib.run_eql_slice_nil w _ _ a n c n' c' Try.underlying22
  go_enter Try.func68, Try.ntmps68
  try go_wp2
  refine start_ (n := 4) (S := fun w' => w'.cell? ⟨B5, 0, none⟩ = some (.int .i64 total)) (ds := []) #[false, false, false, false] (by kernel_rfl) rfl rfl ((blk_cell HO.out.2 0).trans rfl) (fun hHeld => ?_)
  generalize w.drew = wd at HO HL HBr hHeld ⊢
  refine pure_ (i := 0) (N := some 5) (v := ?_) (a' := ?_) #[true, false, false, false] rfl rfl (by kernel_rfl) (fun _ _ _ h => h) (Or.inl ⟨by rfl, ?_⟩) ?_ ?_
  rotate_left
  · intro w'
    go_simp
    with_reducible rfl
  rotate_left
  · simp only [Act.put, List.setIfInBounds_toArray, List.set_cons_zero, List.set_cons_succ, i64_w, i32_w]
    rfl
  refine take_ (i := 2) (N := some 7) (v := ?_) (a' := ?_) #[true, false, true, false] rfl rfl (by kernel_rfl) (fun _ _ _ h => h) (Or.inl ⟨by rfl, ?_⟩) hHeld ?_ ?_
  rotate_left
  · rintro w' s0
    go_simp
    with_reducible rfl
  rotate_left
  · simp only [Act.put, List.setIfInBounds_toArray, List.set_cons_zero, List.set_cons_succ, i64_w, i32_w]
    rfl
  refine one_ (i := 1) (N := some 6) #[true, true, true, false] rfl rfl (by kernel_rfl) (by decide) (fun K hK => ?_)
  refine goes_ Try.func69 (by kernel_rfl) rfl #[.slice (some a) l.length c] (by rfl) rfl rfl (by (try simp only [List.map_toArray, List.map_cons, List.map_nil]); first | done | rfl) ?_
  refine (impl_pairTime.calls k (some a) c l t _ (Kd.R_reads' HL.out).2.2 (Kd.R_reads' HL.out).2.1 HP.out).mono ?_
  rintro e wa ⟨rfl, hb⟩
  refine ⟨_, rfl, ?_⟩
  replace HO := Aside0.mk (HO.out.below hb)
  replace HL := Aside0.mk (Kd.R_below HL.out hb)
  replace HBr := Aside0.mk (below_step HBr.out hb)
  clear hb
  refine hK.out _ _ ((blk_cell HO.out.2 0).trans rfl) (fun hHeld => ?_)
  clear hK K
  refine norm_ (a' := ?_) ?_ ?_
  rotate_left
  · show Act.put _ (some 6) _ = _
    simp only [Act.put, List.setIfInBounds_toArray, List.set_cons_zero, List.set_cons_succ, i64_w, i32_w]
    rfl
  refine pure_ (i := 3) (N := some 8) (v := ?_) (a' := ?_) #[true, true, true, true] rfl rfl (by kernel_rfl) (fun _ _ _ h => h) (Or.inl ⟨by rfl, ?_⟩) ?_ ?_
  rotate_left
  · intro w'
    go_simp
    with_reducible rfl
  rotate_left
  · simp only [Act.put, List.setIfInBounds_toArray, List.set_cons_zero, List.set_cons_succ, i64_w, i32_w]
    rfl
  refine done_ (by kernel_rfl) ?_
  clear hHeld
  obtain ⟨HO1, HO2⟩ := HO.out
  have HX := Aside0.mk HO2
  clear HO2 HO
  by_cases ht : t = total
  · have ht2 : (t == total) = true := by simpa using ht
    have HT := Aside0.mk ht
    obtain ⟨u, hG⟩ : ∃ u, wa.heap[G]? = some (.cells #[u] 22 (0, 0)) := by
      cases st with
      | none => exact ⟨_, HO1⟩
      | some l2 =>
        obtain ⟨a2, c2, h3, _⟩ := HO1
        exact ⟨_, h3⟩
    clear HO1 ht
    have hz : wa.cell? ⟨G, 0, none⟩ = some u := (blk_cell hG 0).trans rfl
    have hf := blk_frozen hG 0
    have HG := Aside0.mk hG
    clear hG
    have hz2 : (wa.setCell ⟨G, 0, none⟩ (.slice (some a) l.length c)).cell? ⟨G, 0, none⟩ = some (.slice (some a) l.length c) := World.cell?_setCell_same' _ _ _ (by rw [hz]; rfl)
    go_wp2
    go_ret
    rw [HRB.out, HSN.out, if_pos HT.out, if_pos HT.out]
    refine ⟨rfl, ⟨⟨a, c, blk_put (cs := #[u]) HG.out 0 _ rfl, Kd.R_mono (Kd.R_far (p := ⟨G, 0, none⟩) (Kd.R_mono (ok' := fun k_ => k_ ≠ G) (Kd.R_bound HL.out) (fun k_ hk => by have h9 := HGN.out; have := hk.2.1; omega)) (fun _ hk => hk) _) (fun _ _ => trivial)⟩, blk_far HX.out HNE.out _⟩, (impl_notFalling.Kp.of_below HBr.out).set _⟩
  · have ht2 : (t == total) = false := by simpa using ht
    have HT := Aside0.mk ht
    clear ht
    cases st with
    | none =>
      have HO1 : wa.heap[G]? = some (.cells #[.slice none 0 0] 22 (0, 0)) := HO1
      have hz : wa.cell? ⟨G, 0, none⟩ = some (.slice none 0 0) := (blk_cell HO1 0).trans rfl
      have HG := Aside0.mk HO1
      clear HO1
      go_wp2
      go_ret
      rw [HRB.out, HSN.out, if_neg HT.out, if_neg HT.out]
      exact ⟨rfl, ⟨HG.out, HX.out⟩, impl_notFalling.Kp.of_below HBr.out⟩
    | some l2 =>
      obtain ⟨a2, c2, h3, h4⟩ := HO1
      have hz : wa.cell? ⟨G, 0, none⟩ = some (.slice (some a2) l2.length c2) := (blk_cell h3 0).trans rfl
      have HG := Aside0.mk h3
      have HR := Aside0.mk h4
      clear h3 h4
      go_wp2
      go_ret
      rw [HRB.out, HSN.out, if_neg HT.out, if_neg HT.out]
      exact ⟨rfl, ⟨⟨a2, c2, HG.out, HR.out⟩, HX.out⟩, impl_notFalling.Kp.of_below HBr.out⟩
set_option maxHeartbeats 8000000 in
set_option maxRecDepth 100000 in
theorem impl_FirstPairList.calls (k : Nat) (a0 : Int) (a1 : Int) (a2 : Int) (r1 : List Int) (r2 : Bool) (w : World) (h : impl_FirstPairList.f k a0 a1 a2 = some (r1, r2)) :
    Calls Try.prog 24 #[.int .i64 a0, .int .i64 a1, .int .i64 a2] w fun e w' => ∃ v0_ : Value, e = .returned (.tuple #[v0_, .bool r2]) ∧ Kd.R (Kd.int .i64) 3 w' w.heap.size (fun _ => True) v0_ r1 ∧ Below w.heap.size w w' := by
  have HB := Aside0.mk (Below.refl w.heap.size w)
  have H : ((impl_isAsked.f a0 a1 a2).bind fun t => if t = true then (impl_notFalling.go (impl_FirstPairList.E k a2) a0 a1 k none none []).bind fun p => some (p.2.getD [], p.2.isSome) else some ([], false)) = some (r1, r2) := h
  clear h
  obtain ⟨t, A20, H⟩ := Option.bind_eq_some_iff.mp H
  have A2 := Aside0.mk A20
  clear A20
  have HH := Aside0.mk H
  clear H
  go_enter Try.func24, Try.ntmps24
  go_upto_region 1 with (first | ((with_reducible refine gate_dst (N := 5) rfl ?_); refine box_event ?hg (N := 5) ?hd (cs := #[.int .i64 a2]) (t := 3) ?hr ?_; (case hd => rfl); (case hg => rfl); (case hr => first | (go_simp; done) | (go_simp; rfl)); intro g5 hg w1 hbox hb; have X5 := Aside0.mk hbox; have GX5 := Aside0.mk ((by rw [hg]; exact below_size HB.out) : w.heap.size ≤ g5); replace HB := Aside0.mk (below_step HB.out hb); clear hb hbox hg))
  (try simp only [Act.put, List.setIfInBounds_toArray, List.set_cons_zero, List.set_cons_succ])
  have hz5 : w1.cell? ⟨g5, 0, none⟩ = some (.int .i64 a2) := (blk_cell X5.out 0).trans rfl
  cases t with
  | false =>
    have H := HH.out
    simp only [Bool.false_eq_true, if_false, Option.some.injEq, Prod.mk.injEq] at H
    obtain ⟨rfl, rfl⟩ := H
    go_wp2_with (go_at_call 66; refine (impl_isAsked.calls a0 a1 a2 false _ A2.out).mono ?_; rintro e w5 ⟨rfl, hd⟩; have hb := hd.below; clear hd; replace HB := Aside0.mk (below_step HB.out hb); clear hb hz5)
    go_ret2
    exact ⟨_, rfl, Kd.R_nil _ _ _ _ _, HB.out⟩
  | true =>
    have H := HH.out
    simp only [if_true] at H
    obtain ⟨⟨b9, n9⟩, A30, H⟩ := Option.bind_eq_some_iff.mp H
    have A3 := Aside0.mk A30
    clear A30
    simp only [Option.some.injEq, Prod.mk.injEq] at H
    obtain ⟨rfl, rfl⟩ := H
    clear HH
    have eg : ∀ args w, (callFunc 68 args).run Try.prog w = .ok (.enter 68 args) w := enters_of Try.func68 (by kernel_rfl) rfl
    go_wp2_with (first | (go_at_call 66; refine (impl_isAsked.calls a0 a1 a2 true _ A2.out).mono ?_; rintro e w5 ⟨rfl, hd⟩; have hb := hd.below; clear hd; replace X5 := Aside0.mk (blk_below (g := g5) X5.out hb); replace HB := Aside0.mk (below_step HB.out hb); clear hb hz5) | ((with_reducible refine gate_dst (N := 8) rfl ?_); refine box_event ?hg (N := 8) ?hd (cs := #[.slice none 0 0]) (t := 22) ?hr ?_; (case hd => rfl); (case hg => rfl); (case hr => first | (go_simp; done) | (go_simp; rfl)); intro g8 hg w6 hbox hb; have X8 := Aside0.mk hbox; have GX8 := Aside0.mk ((by rw [hg]; exact below_size HB.out) : w.heap.size ≤ g8); have nX8X5_ := Aside0.mk (Nat.ne_of_lt (Nat.lt_of_lt_of_le (blk_lt X5.out) (Nat.le_of_eq hg.symm)) : g5 ≠ g8); replace X5 := Aside0.mk (blk_below (g := g5) X5.out hb); replace HB := Aside0.mk (below_step HB.out hb); clear hb hbox hg))
    have hall : Calls Try.prog 67 #[.int .i64 a0, .int .i64 a1, .func (.func 68) #[] #[.pointer (some ⟨g5, 0, none⟩), .pointer (some ⟨g8, 0, none⟩)]] w6 fun e w' => e = .returned (.tuple #[]) ∧ impl_FirstPairList.Out g8 g5 w6.heap.size a2 n9 w' ∧ impl_notFalling.Kp g8 w6 w' := by
      exact impl_notFalling.calls (impl_FirstPairList.E k a2) a0 a1 68 #[.pointer (some ⟨g5, 0, none⟩), .pointer (some ⟨g8, 0, none⟩)] g8 (impl_FirstPairList.Out g8 g5 w6.heap.size a2) k none b9 n9 _ eg (blk_lt X8.out)
        (fun st w w' hs hb => hs.below hb)
        (fun st l b st' w1 v _ hE hs _ hl => by
          unfold impl_FirstPairList.E at hE
          by_cases h0 : 0 < l.length
          · rw [if_pos h0] at hE
            obtain ⟨t, ht, h2⟩ := Option.bind_eq_some_iff.mp hE
            have h3 := impl_FirstPairList.each k a2 st l t g8 g5 _ v w1 nX8X5_.out (blk_lt X8.out) h0 ht hs hl
            by_cases h5 : t = a2
            · simp only [if_pos h5, Option.some.injEq, Prod.mk.injEq] at h2 h3
              obtain ⟨rfl, rfl⟩ := h2
              exact h3
            · simp only [if_neg h5, Option.some.injEq, Prod.mk.injEq] at h2 h3
              obtain ⟨rfl, rfl⟩ := h2
              exact h3
          · rw [if_neg h0] at hE
            cases hE)
        ⟨X8.out, X5.out⟩ A3.out
    have HA := Aside0.mk hall
    clear hall
    go_wp2_with (go_at_call 67; refine HA.out.mono ?_; rintro e w9 ⟨rfl, hs9, hk9⟩; clear HA)
    have HB9 := Aside0.mk (below_drew1 (impl_notFalling.back HB.out hk9 GX8.out))
    obtain ⟨V9, hV9, hGv, hRv, hn9⟩ : ∃ V9, (V9 = .slice none 0 0 ∧ n9 = none ∨ ∃ a c, V9 = .slice (some a) (n9.getD []).length c ∧ n9.isSome = true) ∧ w9.heap[g8]? = some (.cells #[V9] 22 (0, 0)) ∧ Kd.R (Kd.int .i64) 3 w9 w6.heap.size (fun _ => True) V9 (n9.getD []) ∧ True := by
      cases n9 with
      | none => exact ⟨_, .inl ⟨rfl, rfl⟩, hs9.1, Kd.R_nil _ _ _ _ _, trivial⟩
      | some l =>
        obtain ⟨⟨a, c, h3, h4⟩, _⟩ := hs9
        exact ⟨_, .inr ⟨a, c, rfl, rfl⟩, h3, h4, trivial⟩
    clear hn9 hs9 hk9
    have HGv := Aside0.mk (blk_drew hGv)
    have HRv := Aside0.mk (Kd.R_drew (Kd.R_lower hRv (below_size HB.out)))
    clear hGv hRv
    rcases hV9 with ⟨rfl, rfl⟩ | ⟨a, c, rfl, hn⟩
    · refine start_ (n := 5) (S := fun w' => w'.cell? ⟨g8, 0, none⟩ = some (.slice none 0 0)) (ds := []) #[false, false, false, false, false] (by kernel_rfl) rfl rfl ((blk_cell HGv.out 0).trans rfl) (fun hHeld => ?_)
      generalize w9.drew = wd at HGv HRv HB9 hHeld ⊢
      refine take_ (i := 0) (N := some 18) (v := ?_) (a' := ?_) #[true, false, false, false, false] rfl rfl (by kernel_rfl) (fun _ _ _ h => h) (Or.inl ⟨by rfl, ?_⟩) hHeld ?_ ?_
      rotate_left
      · rintro w' s0
        go_simp
        with_reducible rfl
      rotate_left
      · simp only [Act.put, List.setIfInBounds_toArray, List.set_cons_zero, List.set_cons_succ, i64_w, i32_w]
        rfl
      refine take_ (i := 1) (N := some 19) (v := ?_) (a' := ?_) #[true, true, false, false, false] rfl rfl (by kernel_rfl) (fun _ _ _ h => h) (Or.inl ⟨by rfl, ?_⟩) hHeld ?_ ?_
      rotate_left
      · rintro w' s0
        go_simp
        with_reducible rfl
      rotate_left
      · simp only [Act.put, List.setIfInBounds_toArray, List.set_cons_zero, List.set_cons_succ, i64_w, i32_w]
        rfl
      refine pure_ (i := 2) (N := some 20) (v := ?_) (a' := ?_) #[true, true, true, false, false] rfl rfl (by kernel_rfl) (fun _ _ _ h => h) (Or.inl ⟨by rfl, ?_⟩) ?_ ?_
      rotate_left
      · intro w'
        go_simp; rw [run_neq_slice_nil_any _ _ _ _ _ _ _ _ Try.underlying22]; try go_simp
        with_reducible rfl
      rotate_left
      · simp only [Act.put, List.setIfInBounds_toArray, List.set_cons_zero, List.set_cons_succ, i64_w, i32_w]
        rfl
      refine pure_ (i := 3) (N := some 6) (v := ?_) (a' := ?_) #[true, true, true, true, false] rfl rfl (by kernel_rfl) (fun _ _ _ h => h) (Or.inl ⟨by rfl, ?_⟩) ?_ ?_
      rotate_left
      · intro w'
        go_simp
        with_reducible rfl
      rotate_left
      · simp only [Act.put, List.setIfInBounds_toArray, List.set_cons_zero, List.set_cons_succ, i64_w, i32_w]
        rfl
      refine pure_ (i := 4) (N := some 7) (v := ?_) (a' := ?_) #[true, true, true, true, true] rfl rfl (by kernel_rfl) (fun _ _ _ h => h) (Or.inl ⟨by rfl, ?_⟩) ?_ ?_
      rotate_left
      · intro w'
        go_simp
        with_reducible rfl
      rotate_left
      · simp only [Act.put, List.setIfInBounds_toArray, List.set_cons_zero, List.set_cons_succ, i64_w, i32_w]
        rfl
      refine done_ (by kernel_rfl) ?_
      try go_wp2
      go_ret2
      exact ⟨_, rfl, HRv.out, HB9.out⟩
    · refine start_ (n := 5) (S := fun w' => w'.cell? ⟨g8, 0, none⟩ = some (.slice (some a) (n9.getD []).length c)) (ds := []) #[false, false, false, false, false] (by kernel_rfl) rfl rfl ((blk_cell HGv.out 0).trans rfl) (fun hHeld => ?_)
      generalize w9.drew = wd at HGv HRv HB9 hHeld ⊢
      refine take_ (i := 0) (N := some 18) (v := ?_) (a' := ?_) #[true, false, false, false, false] rfl rfl (by kernel_rfl) (fun _ _ _ h => h) (Or.inl ⟨by rfl, ?_⟩) hHeld ?_ ?_
      rotate_left
      · rintro w' s0
        go_simp
        with_reducible rfl
      rotate_left
      · simp only [Act.put, List.setIfInBounds_toArray, List.set_cons_zero, List.set_cons_succ, i64_w, i32_w]
        rfl
      refine take_ (i := 1) (N := some 19) (v := ?_) (a' := ?_) #[true, true, false, false, false] rfl rfl (by kernel_rfl) (fun _ _ _ h => h) (Or.inl ⟨by rfl, ?_⟩) hHeld ?_ ?_
      rotate_left
      · rintro w' s0
        go_simp
        with_reducible rfl
      rotate_left
      · simp only [Act.put, List.setIfInBounds_toArray, List.set_cons_zero, List.set_cons_succ, i64_w, i32_w]
        rfl
      refine pure_ (i := 2) (N := some 20) (v := ?_) (a' := ?_) #[true, true, true, false, false] rfl rfl (by kernel_rfl) (fun _ _ _ h => h) (Or.inl ⟨by rfl, ?_⟩) ?_ ?_
      rotate_left
      · intro w'
        go_simp; rw [run_neq_slice_nil_any _ _ _ _ _ _ _ _ Try.underlying22]; try go_simp
        with_reducible rfl
      rotate_left
      · simp only [Act.put, List.setIfInBounds_toArray, List.set_cons_zero, List.set_cons_succ, i64_w, i32_w]
        rfl
      refine pure_ (i := 3) (N := some 6) (v := ?_) (a' := ?_) #[true, true, true, true, false] rfl rfl (by kernel_rfl) (fun _ _ _ h => h) (Or.inl ⟨by rfl, ?_⟩) ?_ ?_
      rotate_left
      · intro w'
        go_simp
        with_reducible rfl
      rotate_left
      · simp only [Act.put, List.setIfInBounds_toArray, List.set_cons_zero, List.set_cons_succ, i64_w, i32_w]
        rfl
      refine pure_ (i := 4) (N := some 7) (v := ?_) (a' := ?_) #[true, true, true, true, true] rfl rfl (by kernel_rfl) (fun _ _ _ h => h) (Or.inl ⟨by rfl, ?_⟩) ?_ ?_
      rotate_left
      · intro w'
        go_simp
        with_reducible rfl
      rotate_left
      · simp only [Act.put, List.setIfInBounds_toArray, List.set_cons_zero, List.set_cons_succ, i64_w, i32_w]
        rfl
      refine done_ (by kernel_rfl) ?_
      try go_wp2
      go_ret2
      rw [hn]
      exact ⟨_, rfl, HRv.out, HB9.out⟩

/-! ### laws_markIntS: function 25 -/
def laws_markIntS.l0 : Nat → List Int → Int → Int → Option (Int × List Int)
  | 0, _, _, _ => none
  | k + 1, x0, x1, x5 => if x5 < (x0.length : Int) then (if 0 ≤ x5 then (laws_markIntS.l0 k (x0.set (x5 : Int).toNat x1) (wrap64 (x1 + 1)) (wrap64 (x5 + 1))) else (none)) else (some (x1, x0))
def laws_markIntS.f (k : Nat) (l0 : List Int) (a1 : Int) : Option (Int × List Int) := laws_markIntS.l0 k l0 a1 0
set_option maxHeartbeats 8000000 in
set_option maxRecDepth 100000 in
theorem laws_markIntS.calls (k : Nat) (P0_ : Nat → Prop) (u9000_ : Value) (l0 : List Int) (a1 : Int) (r1 : Int) (r2 : List Int) (w0 w : World) (hB : Below w0.heap.size w0 w) (ho0 : Kd.R (Kd.int .i64) 3 w w0.heap.size P0_ u9000_ l0) (h : laws_markIntS.f k l0 a1 = some (r1, r2)) :
    Calls Try.prog 25 #[u9000_, .int .i64 a1] w fun e w' => e = .returned (.int .i64 r1) ∧ Kd.R (Kd.int .i64) 3 w' w0.heap.size (fun k_ => (P0_ k_ ∨ w.heap.size ≤ k_)) u9000_ r2 ∧ Below w0.heap.size w0 w' ∧ Kept w w' (fun k_ => P0_ k_) := by
  have HO0 := Aside0.mk (show Kd.R (Kd.int .i64) 3 w w0.heap.size (fun k_ => (P0_ k_ ∨ w.heap.size ≤ k_)) u9000_ l0 from Kd.R_mono ho0 (fun k_ hk => (.inl hk)))
  have HK := Aside0.mk (Kept.refl w (fun k_ => P0_ k_))
  have HW0 := Aside0.mk hB.size
  have HB := Aside0.mk hB
  clear hB
  have H : (laws_markIntS.l0 k l0 a1 0) = some (r1, r2) := h
  clear h
  have H' := Aside0.mk H
  clear H
  go_enter Try.func25, Try.ntmps25
  go_wp2
  go_loopg [1, 5] k (fun kq v1 v5 w' => ∃ (x0_1 : List Int) (x1_1 : Int) (x5_1 : Int), v1 = .int .i64 x1_1 ∧ v5 = .int .i64 x5_1 ∧ Aside0 (laws_markIntS.l0 kq x0_1 x1_1 x5_1 = some (r1, r2)) ∧ Aside0 (kq ≤ k) ∧ Aside0 (Kd.R (Kd.int .i64) 3 w' w0.heap.size (fun k_ => (P0_ k_ ∨ w.heap.size ≤ k_)) u9000_ x0_1) ∧ Aside0 (Kept w w' (fun k_ => P0_ k_)) ∧ Aside0 (Below w0.heap.size w0 w'))
  case atStart => exact ⟨(l0), (a1), (0), (by first | rfl | (simp; done) | (simp [*]; done)), (by first | rfl | (simp; done) | (simp [*]; done)), H', ⟨Nat.le_refl _⟩, ⟨by (with_reducible repeat (first | apply Kd.R_alloc | apply Kd.R_drewN | apply Kd.R_drew)); exact HO0.out⟩, ⟨by repeat (first | (with_reducible first | exact HK.out | apply Kept.alloc | apply Kept.drewN | apply Kept.drew) | exact HK.out)⟩, ⟨by repeat (first | (with_reducible first | exact HB.out | apply below_alloc | apply pw_below_drewN | apply below_drew1) | exact HB.out)⟩⟩
  case round =>
    clear H'
    try clear c2
    try clear p2
    obtain ⟨x0_1, x1_1, x5_1, rfl, rfl, HA, HK1, HO_0, HK, HB⟩ := hrel
    cases gk with
    | zero => exact absurd HA.out (by simp [laws_markIntS.l0])
    | succ k1 =>
      have H := HA.out
      clear HA
      simp only [laws_markIntS.l0] at H
      by_cases c3 : x5_1 < (x0_1.length : Int)
      · rw [if_pos c3] at H
        have c3b0 : decide (x5_1 < (x0_1.length : Int)) = true := decide_eq_true c3
        clear c3
        by_cases c4 : 0 ≤ x5_1
        · rw [if_pos c4] at H
          have c4b0 : decide (0 ≤ x5_1) = true := decide_eq_true c4
          clear c4
          obtain ⟨y257, hy257⟩ : ∃ y_ : List Int, y_ = (x0_1.set (x5_1 : Int).toNat x1_1) := ⟨_, rfl⟩
          replace H : (laws_markIntS.l0 k1 y257 (wrap64 (x1_1 + 1)) (wrap64 (x5_1 + 1))) = some (r1, r2) := by first | (rw [hy257]; with_reducible exact H) | (have H2_ := (Option.bind_some _ _).symm.trans H; rw [hy257]; with_reducible exact H2_) | (have H2_ := (Option.bind_some _ _).symm.trans H; with_reducible exact H2_) | with_reducible exact H | (rw [hy257]; exact H) | exact H
          have Ny257 := Aside0.mk hy257
          clear hy257
          have H' := Aside0.mk H
          clear H
          obtain ⟨Ao6, co6, eo6⟩ := Kd.R_slice HO_0.out
          subst eo6
          have p5 : 0 ≤ (x5_1 : Int) := of_decide_eq_true (by first | (with_reducible assumption) | assumption)
          have q5 : (x5_1 : Int) < ((x0_1.length : Int) : Int) := of_decide_eq_true (by first | (with_reducible assumption) | assumption)
          obtain ⟨go5, co5, eo5, gb5, gl5, cl5, HG5⟩ := Kd.R_form HO_0.out (by omega)
          (first | cases eo5 | (injection eo5 with ea_ en_ ec_; (first | subst ea_ | (injection ea_ with ea_; subst ea_)); subst ec_; clear en_))
          have GB5 := Aside0.mk gb5
          have GG5 := Aside0.mk HG5
          clear gb5 gl5 HG5
          have HMgo5 := Aside0.mk (show (P0_ go5 ∨ w.heap.size ≤ go5) from (HO_0.out.1 _ rfl))
          obtain ⟨hx5_0, hf5_0⟩ := Kd.R_celln 0 HO_0.out (x5_1 : Int) p5 q5
          replace p5 := eq_true p5
          replace q5 := eq_true q5
          have HP7 := Kd.R_putg HO_0.out (x5_1 : Int) x1_1
          go_wp2_with (first | ((with_reducible refine gate_store (t := 3) (p := 15) rfl ?_); refine store_event (t := 3) (p := 15) (v := ?vo_w8) (w1 := (wr.setCell ⟨go5, (x5_1 : Int).toNat, none⟩ (.int .i64 x1_1))) ?hg ?ho ?hn ?hr ?_; (case ho => rfl); (case hg => rfl); (case hn => rfl); (case hr => first | (go_simp; done) | (go_simp; rfl)); intro w8 hw; have hg : wr.grownBy w8 (some go5) := (by rw [hw]; exact HP7.2); have hp_ : Kd.R (Kd.int .i64) 3 w8 w0.heap.size (fun k_ => (P0_ k_ ∨ w.heap.size ≤ k_)) (.slice (some ⟨go5, 0, none⟩) x0_1.length co6) y257 := (by rw [hw, Ny257.out]; exact HP7.1); clear HP7; have n0_ := Aside0.mk (hp_); have n1_ := Aside0.mk ((by rw [hw]; exact below_set (HB.out) GB5.out : Below w0.heap.size w0 w8)); have n2_ := Aside0.mk (Kept.of_grown (S := (fun k_ => P0_ k_)) hg (by repeat (first | (with_reducible first | exact HK.out | apply Kept.alloc | apply Kept.drewN | apply Kept.drew) | exact HK.out)) (fun k_ e_ => (HO_0.out.1 k_ e_))); clear HO_0; clear HB; clear HK; have HO_0 := n0_; have HB := n1_; have HK := n2_; clear n0_ n1_ n2_; clear hg hw hp_))
          go_roundg k1
          case measure => have := HK1.out; omega
          case rel => exact ⟨(y257), (wrap64 (x1_1 + 1)), (wrap64 (x5_1 + 1)), (by first | rfl | (simp; done) | (simp [*]; done)), (by first | rfl | (simp; done) | (simp [*]; done)), H', ⟨by have := HK1.out; omega⟩, ⟨by (with_reducible repeat (first | apply Kd.R_alloc | apply Kd.R_drewN | apply Kd.R_drew)); exact HO_0.out⟩, ⟨by repeat (first | (with_reducible first | exact HK.out | apply Kept.alloc | apply Kept.drewN | apply Kept.drew) | exact HK.out)⟩, ⟨by repeat (first | (with_reducible first | exact HB.out | apply below_alloc | apply pw_below_drewN | apply below_drew1) | exact HB.out)⟩⟩
        · rw [if_neg c4] at H
          exact absurd H (by simp)
      · rw [if_neg c3] at H
        have c3b0 : decide (x5_1 < (x0_1.length : Int)) = false := decide_eq_false c3
        clear c3
        simp only [Option.some.injEq, Prod.mk.injEq] at H
        obtain ⟨rfl, rfl⟩ := H
        obtain ⟨Ao9, co9, eo9⟩ := Kd.R_slice HO_0.out
        subst eo9
        go_wp2
        go_ret
        exact ⟨by first | rfl | (simp [errW_none, errW_some] <;> rfl) | (simp [*, errW_none, errW_some] <;> rfl), by (with_reducible repeat (first | apply Kd.R_alloc | apply Kd.R_drewN | apply Kd.R_drew)); exact HO_0.out, by repeat (first | (with_reducible first | exact HB.out | apply below_alloc | apply pw_below_drewN | apply below_drew1) | exact HB.out), by repeat (first | (with_reducible first | exact HK.out | apply Kept.alloc | apply Kept.drewN | apply Kept.drew) | exact HK.out)⟩

/-! ### laws_heldIntS: function 26 -/
def laws_heldIntS.l0 : Nat → List Int → Int → Int → Option (Int)
  | 0, _, _, _ => none
  | k + 1, x0, x1, x5 => if x5 < (x0.length : Int) then (if 0 ≤ x5 then (if (rd x0 x5) = x1 then (laws_heldIntS.l0 k x0 (wrap64 (x1 + 1)) (wrap64 (x5 + 1))) else (some (-1))) else (none)) else (some x1)
def laws_heldIntS.f (k : Nat) (l0 : List Int) (a1 : Int) : Option (Int) := laws_heldIntS.l0 k l0 a1 0
set_option maxHeartbeats 8000000 in
set_option maxRecDepth 100000 in
theorem laws_heldIntS.calls (k : Nat) (A0 : Option Addr) (c0 : Nat) (l0 : List Int) (a1 : Int) (r : Int) (w : World) (hr0 : Kd.C (Kd.int .i64) w A0 l0.length l0) (hc0 : l0.length ≤ c0) (h : laws_heldIntS.f k l0 a1 = some r) :
    Calls Try.prog 26 #[.slice A0 l0.length c0, .int .i64 a1] w fun e w' => e = .returned (.int .i64 r) ∧ Drawn0 w w' := by
  have HR0 := Aside0.mk hr0
  have HC0 := Aside0.mk hc0
  clear hr0 hc0
  have H : (laws_heldIntS.l0 k l0 a1 0) = some r := h
  clear h
  have H' := Aside0.mk H
  clear H
  go_enter Try.func26, Try.ntmps26
  go_wp2
  go_loopg [1, 5] k (fun kq v1 v5 w' => ∃ (x1_1 : Int) (x5_1 : Int), v1 = .int .i64 x1_1 ∧ v5 = .int .i64 x5_1 ∧ Aside0 (laws_heldIntS.l0 kq l0 x1_1 x5_1 = some r) ∧ Aside0 (kq ≤ k) ∧ Drawn0 w w')
  case atStart => exact ⟨(a1), (0), (by first | rfl | (simp; done) | (simp [*]; done)), (by first | rfl | (simp; done) | (simp [*]; done)), H', ⟨Nat.le_refl _⟩, by repeat (first | exact Drawn0.refl _ | apply Drawn0.step)⟩
  case round =>
    clear H'
    try clear c2
    try clear p2
    obtain ⟨x1_1, x5_1, rfl, rfl, HA, HK1, ⟨m1, rfl⟩⟩ := hrel
    cases gk with
    | zero => exact absurd HA.out (by simp [laws_heldIntS.l0])
    | succ k1 =>
      have H := HA.out
      clear HA
      simp only [laws_heldIntS.l0] at H
      by_cases c3 : x5_1 < (l0.length : Int)
      · rw [if_pos c3] at H
        have c3b0 : decide (x5_1 < (l0.length : Int)) = true := decide_eq_true c3
        clear c3
        by_cases c4 : 0 ≤ x5_1
        · rw [if_pos c4] at H
          have c4b0 : decide (0 ≤ x5_1) = true := decide_eq_true c4
          clear c4
          by_cases c5 : (rd l0 x5_1) = x1_1
          · rw [if_pos c5] at H
            have c5b0 : ((rd l0 x5_1) == x1_1) = true := beq_iff_eq.mpr c5
            have c5b1 : ((rd l0 x5_1) != x1_1) = false := bne_eq_false_iff_eq.mpr c5
            clear c5
            have H' := Aside0.mk H
            clear H
            have p258 : 0 ≤ (x5_1 : Int) := of_decide_eq_true (by first | (with_reducible assumption) | assumption)
            have q258 : x5_1 < (l0.length : Int) := of_decide_eq_true (by first | (with_reducible assumption) | assumption)
            obtain ⟨ad258, e258, hx258_0⟩ := Kd.at_int HR0.out x5_1 p258 q258
            cases e258
            replace p258 := eq_true p258
            replace q258 := eq_true q258
            go_wp2
            go_roundg k1
            case measure => have := HK1.out; omega
            case rel => exact ⟨(wrap64 (x1_1 + 1)), (wrap64 (x5_1 + 1)), (by first | rfl | (simp; done) | (simp [*]; done)), (by first | rfl | (simp; done) | (simp [*]; done)), H', ⟨by have := HK1.out; omega⟩, by repeat (first | exact Drawn0.refl _ | apply Drawn0.step)⟩
          · rw [if_neg c5] at H
            have c5b0 : ((rd l0 x5_1) == x1_1) = false := beq_eq_false_iff_ne.mpr c5
            have c5b1 : ((rd l0 x5_1) != x1_1) = true := bne_iff_ne.mpr c5
            obtain rfl := Option.some.inj H
            have p258 : 0 ≤ (x5_1 : Int) := of_decide_eq_true (by first | (with_reducible assumption) | assumption)
            have q258 : x5_1 < (l0.length : Int) := of_decide_eq_true (by first | (with_reducible assumption) | assumption)
            obtain ⟨ad258, e258, hx258_0⟩ := Kd.at_int HR0.out x5_1 p258 q258
            cases e258
            replace p258 := eq_true p258
            replace q258 := eq_true q258
            go_wp2
            go_ret
            exact ⟨by first | rfl | (simp; done) | (simp [*]; done), by repeat (first | exact Drawn0.refl _ | apply Drawn0.step)⟩
        · rw [if_neg c4] at H
          exact absurd H (by simp)
      · rw [if_neg c3] at H
        have c3b0 : decide (x5_1 < (l0.length : Int)) = false := decide_eq_false c3
        clear c3
        obtain rfl := Option.some.inj H
        go_wp2
        go_ret
        exact ⟨by first | rfl | (simp; done) | (simp [*]; done), by repeat (first | exact Drawn0.refl _ | apply Drawn0.step)⟩

/-! ### laws_FnExactFirstPairList: function 4 -/
theorem laws_FnExactFirstPairList.newR {α : Type} {d : Kd α} {e T : Nat} {w W W' : World} {v : Value} {xs : List α} (h : d.R e W' W.heap.size (fun _ => True) v xs) (ht : T ≤ W.heap.size) (hw : w.heap.size ≤ W.heap.size) (hs : W.heap.size ≤ W'.heap.size) : ∃ lo hi : Nat, (T ≤ lo ∧ lo ≤ hi) ∧ hi ≤ W'.heap.size ∧ d.R e W' w.heap.size (fun k_ => lo ≤ k_ ∧ k_ < hi) v xs :=
  ⟨W.heap.size, W'.heap.size, ⟨ht, hs⟩, Nat.le_refl _, Kd.R_lower (Kd.R_mono (Kd.R_bound h) (fun _ hk => ⟨hk.2.1, hk.2.2.1⟩)) hw⟩
theorem laws_FnExactFirstPairList.newS {α : Type} {d : Kd α} {e T : Nat} {w W W' : World} {v : Value} {xs : List α} (h : Kd.S d e W' W.heap.size (fun _ => True) v xs) (ht : T ≤ W.heap.size) (hw : w.heap.size ≤ W.heap.size) (hs : W.heap.size ≤ W'.heap.size) : ∃ lo hi : Nat, (T ≤ lo ∧ lo ≤ hi) ∧ hi ≤ W'.heap.size ∧ Kd.S d e W' w.heap.size (fun k_ => lo ≤ k_ ∧ k_ < hi) v xs :=
  ⟨W.heap.size, W'.heap.size, ⟨ht, hs⟩, Nat.le_refl _, Kd.S_lower (Kd.S_mono (Kd.S_bound h) (fun _ hk => ⟨hk.2.1, hk.2.2.1⟩)) hw⟩
theorem laws_FnExactFirstPairList.newN {α : Type} {d : Kd α} {e T : Nat} {w W W' : World} {v : Value} {xs : List α} (h : Kd.N d e W' W.heap.size (fun k_ => W.heap.size ≤ k_) v xs) (ht : T ≤ W.heap.size) (hw : w.heap.size ≤ W.heap.size) (hs : W.heap.size ≤ W'.heap.size) : ∃ lo hi : Nat, (T ≤ lo ∧ lo ≤ hi) ∧ hi ≤ W'.heap.size ∧ Kd.N d e W' w.heap.size (fun k_ => lo ≤ k_ ∧ k_ < hi) v xs :=
  ⟨W.heap.size, W'.heap.size, ⟨ht, hs⟩, Nat.le_refl _, Kd.N_lower (Kd.N_mono (Kd.N_bound h) (fun _ hk => hk)) hw⟩
theorem laws_FnExactFirstPairList.grownN {α : Type} {d : Kd α} {e b lo hi g : Nat} {W W' : World} {v : Value} {xs : List α} (h : Kd.N d e W b (fun k_ => lo ≤ k_ ∧ k_ < hi) v xs) (hg : W.grownBy W' (some g)) (hne : g < lo ∨ hi ≤ g) : Kd.N d e W' b (fun k_ => lo ≤ k_ ∧ k_ < hi) v xs :=
  Kd.N_grown h hg (fun k hk he => by injection he with he; have h1 := hk.1; have h2 := hk.2; omega)
theorem laws_FnExactFirstPairList.keptN {α : Type} {d : Kd α} {e b lo hi lo' hi' : Nat} {W W' : World} {v : Value} {xs : List α} (h : Kd.N d e W b (fun k_ => lo ≤ k_ ∧ k_ < hi) v xs) (hk : Kept W W' (fun k_ => lo' ≤ k_ ∧ k_ < hi')) (hne : hi ≤ lo' ∨ hi' ≤ lo) : Kd.N d e W' b (fun k_ => lo ≤ k_ ∧ k_ < hi) v xs :=
  Kd.N_kept h hk (fun k h1 h2 => by have h3 := h1.1; have h4 := h1.2; have h5 := h2.1; have h6 := h2.2; omega)
theorem laws_FnExactFirstPairList.grownR {α : Type} {d : Kd α} {e b lo hi g : Nat} {W W' : World} {v : Value} {xs : List α} (h : d.R e W b (fun k_ => lo ≤ k_ ∧ k_ < hi) v xs) (hg : W.grownBy W' (some g)) (hne : g < lo ∨ hi ≤ g) : d.R e W' b (fun k_ => lo ≤ k_ ∧ k_ < hi) v xs :=
  Kd.R_grown h hg (fun k hk he => by injection he with he; have h1 := hk.1; have h2 := hk.2; omega)
theorem laws_FnExactFirstPairList.grownS {α : Type} {d : Kd α} {e b lo hi g : Nat} {W W' : World} {v : Value} {xs : List α} (h : Kd.S d e W b (fun k_ => lo ≤ k_ ∧ k_ < hi) v xs) (hg : W.grownBy W' (some g)) (hne : g < lo ∨ hi ≤ g) : Kd.S d e W' b (fun k_ => lo ≤ k_ ∧ k_ < hi) v xs :=
  Kd.S_grown h hg (fun k hk he => by injection he with he; have h1 := hk.1; have h2 := hk.2; omega)
theorem laws_FnExactFirstPairList.keptR {α : Type} {d : Kd α} {e b lo hi lo' hi' : Nat} {W W' : World} {v : Value} {xs : List α} (h : d.R e W b (fun k_ => lo ≤ k_ ∧ k_ < hi) v xs) (hk : Kept W W' (fun k_ => lo' ≤ k_ ∧ k_ < hi')) (hne : hi ≤ lo' ∨ hi' ≤ lo) : d.R e W' b (fun k_ => lo ≤ k_ ∧ k_ < hi) v xs :=
  Kd.R_kept h hk (fun k h1 h2 => by have h3 := h1.1; have h4 := h1.2; have h5 := h2.1; have h6 := h2.2; omega)
theorem laws_FnExactFirstPairList.keptS {α : Type} {d : Kd α} {e b lo hi lo' hi' : Nat} {W W' : World} {v : Value} {xs : List α} (h : Kd.S d e W b (fun k_ => lo ≤ k_ ∧ k_ < hi) v xs) (hk : Kept W W' (fun k_ => lo' ≤ k_ ∧ k_ < hi')) (hne : hi ≤ lo' ∨ hi' ≤ lo) : Kd.S d e W' b (fun k_ => lo ≤ k_ ∧ k_ < hi) v xs :=
  Kd.S_kept h hk (fun k h1 h2 => by have h3 := h1.1; have h4 := h1.2; have h5 := h2.1; have h6 := h2.2; omega)
theorem laws_FnExactFirstPairList.keptB {lo hi g : Nat} {o : Obj} {W W' : World} (h : W.heap[g]? = some o) (hk : Kept W W' (fun k_ => lo ≤ k_ ∧ k_ < hi)) (hne : g < lo ∨ hi ≤ g) : W'.heap[g]? = some o :=
  blk_kept h hk (fun h2 => by have h5 := h2.1; have h6 := h2.2; omega)
theorem laws_FnExactFirstPairList.grownB {g g' : Nat} {o : Obj} {W W' : World} (h : W.heap[g]? = some o) (hg : W.grownBy W' (some g')) (hne : g ≠ g') : W'.heap[g]? = some o :=
  (hg.block g (blk_lt h) (fun he => hne (by injection he))).trans h
theorem laws_FnExactFirstPairList.runs {P : Program} {W : World} {g T : Nat} {cur : Array Value} (t : TypeId) (u : Value) (new : List Value) (hb : W.heap[g]? = some (.cells cur T (0, 0))) (hu : u.cells.toList = new) (ht : (P.info? t).map (·.size) = some new.length) (hsz : new.length = cur.size) (h1 : ∀ q ∈ new, q.oneCell' = true) :
    ∃ w1, (Instr.storeAt t (.pointer (some ⟨g, 0, none⟩)) u).run P W = .ok () w1 ∧ w1.heap[g]? = some (.cells new.toArray T (0, 0)) ∧ W.grownBy w1 (some g) := by
  refine ⟨W.setCells g 0 new, run_store_run t u new hb hu ht (by omega) h1, ?_, ?_⟩
  · obtain ⟨cur', c1, c2, c3⟩ := setCells_row new 0 W cur hb (by omega)
    rw [c1]
    rw [List.take_zero, List.nil_append, Nat.zero_add, hsz, List.drop_eq_nil_of_le (by rw [Array.length_toList]; omega), List.append_nil] at c3
    rw [← c3]
  · obtain ⟨s1, s2, s3, s4⟩ := setCells_same g new 0 W
    exact ⟨s1, s2, s3, by rw [s4]; exact Nat.le_refl _, fun k _ hk => setCells_far _ _ k (fun he => hk (by rw [he]))⟩
theorem laws_FnExactFirstPairList.store {P : Program} {ops : Array Oper} {rest : List Oper} {o : Oper} {a : Act} {Q : Exit → Act → World → Prop} {W : World} (hgd : o.guard = none) (hN : o.dst = none) {t : TypeId} {p : Tmp} {x : Operand} (ho : o.op = .store t (.tmp p) x) (g T : Nat) (cur : Array Value) (u : Value) (new : List Value) (haddr : a.eval (.tmp p) = .pointer (some ⟨g, 0, none⟩)) (hx : a.eval x = u) (hb : W.heap[g]? = some (.cells cur T (0, 0))) (hu : u.cells.toList = new) (ht : (P.info? t).map (·.size) = some new.length) (hsz : new.length = cur.size) (h1 : ∀ q ∈ new, q.oneCell' = true)
    (h : ∀ w1, w1.heap[g]? = some (.cells new.toArray T (0, 0)) → W.grownBy w1 (some g) → wpList P ops Q rest a w1) : wpList P ops Q (o :: rest) a W := by
  obtain ⟨w1, hrun, h2, h3⟩ := laws_FnExactFirstPairList.runs (P := P) t u new hb hu ht hsz h1
  refine wpList_plain hgd fun K hK => ?_
  unfold Oper.wp execOp
  simp only [ho, haddr, hx, Sem.run_bind, Sem.run_pure, Result.andThen_ok, hrun]
  show K (a.put o.dst undef) _
  rw [hN]
  exact hK _ _ (h w1 h2 h3)
theorem laws_FnExactFirstPairList.storeK {P : Program} {ops : Array Oper} {o : Oper} {a : Act} {Q : Exit → Act → World → Prop} {Kc : Act → World → Prop} {W : World} (hw : Region.wanted o (yielded ops a.tmps) = true) (hN : o.dst = none) {t : TypeId} {p : Tmp} {x : Operand} (ho : o.op = .store t (.tmp p) x) (g T : Nat) (cur : Array Value) (u : Value) (new : List Value) (haddr : a.eval (.tmp p) = .pointer (some ⟨g, 0, none⟩)) (hx : a.eval x = u) (hb : W.heap[g]? = some (.cells cur T (0, 0))) (hu : u.cells.toList = new) (ht : (P.info? t).map (·.size) = some new.length) (hsz : new.length = cur.size) (h1 : ∀ q ∈ new, q.oneCell' = true)
    (h : ∀ w1, w1.heap[g]? = some (.cells new.toArray T (0, 0)) → W.grownBy w1 (some g) → Kc a w1) : if Region.wanted o (yielded ops a.tmps) = true then Oper.wp P o a W Kc Q else Kc (a.put none undef) W := by
  obtain ⟨w1, hrun, h2, h3⟩ := laws_FnExactFirstPairList.runs (P := P) t u new hb hu ht hsz h1
  rw [if_pos hw]
  unfold Oper.wp execOp
  simp only [ho, haddr, hx, Sem.run_bind, Sem.run_pure, Result.andThen_ok, hrun]
  show Kc (a.put o.dst undef) _
  rw [hN]
  exact h w1 h2 h3
def laws_FnExactFirstPairList.f (k : Nat) (a0 : Int) (a1 : Int) (a2 : Int) : Option Bool := (spec_FirstPairList.f k a0 a1 a2).bind fun b1 => ((impl_FirstPairList.f k a0 a1 a2).bind fun b5 => ((laws_eqIntS.f k b5.1 b1.1).bind fun b9 => (if b9 = true then (if (b5.2 != b1.2) = true then none else ((laws_markIntS.f k b5.1 1).bind fun b11 => ((laws_heldIntS.f k b11.2 1).bind fun b14 => (if b14 < 0 then none else (if b14 = b11.1 then ((impl_FirstPairList.f k a0 a1 a2).bind fun b16 => ((laws_eqIntS.f k b16.1 b1.1).bind fun b20 => (if b20 = true then (if (b16.2 != b1.2) = true then none else ((laws_heldIntS.f k b11.2 1).bind fun b22 => (if b22 < 0 then none else (if b22 = b11.1 then (some true) else none)))) else none))) else none))))) else none)))
set_option maxHeartbeats 16000000 in
set_option maxRecDepth 100000 in
theorem laws_FnExactFirstPairList.calls (k : Nat) (a0 : Int) (a1 : Int) (a2 : Int) (r : Bool) (w : World)  (h : laws_FnExactFirstPairList.f k a0 a1 a2 = some r) :
    Calls Try.prog 4 #[.int .i64 a0, .int .i64 a1, .int .i64 a2] w fun e w' => e = .returned (.bool r) ∧ Below w.heap.size w w' := by
  have HB := Aside0.mk (Below.refl w.heap.size w)
  have HT := Aside0.mk (Nat.le_refl w.heap.size)
  have HN := Aside0.mk trivial
  have H := h
  unfold laws_FnExactFirstPairList.f at H
  clear h
  obtain ⟨⟨t2, t3⟩, AQ1_, H⟩ := Option.bind_eq_some_iff.mp H
  have AQ1 := Aside0.mk AQ1_
  clear AQ1_
  (try dsimp only at AQ1 H)
  obtain ⟨⟨t6, t7⟩, AQ5_, H⟩ := Option.bind_eq_some_iff.mp H
  have AQ5 := Aside0.mk AQ5_
  clear AQ5_
  (try dsimp only at AQ5 H)
  obtain ⟨t10, AQ9_, H⟩ := Option.bind_eq_some_iff.mp H
  have AQ9 := Aside0.mk AQ9_
  clear AQ9_
  (try dsimp only at AQ9 H)
  rcases t10 with _ | _
  · rw [if_neg (by decide)] at H; cases H
  rw [if_pos rfl] at H
  by_cases c24 : (t7 != t3) = true
  · rw [if_pos c24] at H; cases H
  rw [if_neg c24] at H
  have c24b0 : (t7 != t3) = false := by simpa using c24
  have c24b1 : decide (t7 = t3) = true := by simpa using c24
  have c24b2 : (t7 == t3) = true := by simpa using c24
  clear c24
  obtain ⟨⟨t12, t13⟩, AQ11_, H⟩ := Option.bind_eq_some_iff.mp H
  have AQ11 := Aside0.mk AQ11_
  clear AQ11_
  (try dsimp only at AQ11 H)
  obtain ⟨t15, AQ14_, H⟩ := Option.bind_eq_some_iff.mp H
  have AQ14 := Aside0.mk AQ14_
  clear AQ14_
  (try dsimp only at AQ14 H)
  by_cases c25 : t15 < 0
  · rw [if_pos c25] at H; cases H
  rw [if_neg c25] at H
  have c25b0 : decide (t15 < 0) = false := decide_eq_false c25
  clear c25
  by_cases c26 : t15 = t12
  rotate_left
  · rw [if_neg c26] at H; cases H
  rw [if_pos c26] at H
  have c26b0 : (t15 == t12) = true := beq_iff_eq.mpr c26
  have c26b1 : (t15 != t12) = false := bne_eq_false_iff_eq.mpr c26
  clear c26
  obtain ⟨⟨t17, t18⟩, AQ16_, H⟩ := Option.bind_eq_some_iff.mp H
  have AQ16 := Aside0.mk AQ16_
  clear AQ16_
  (try dsimp only at AQ16 H)
  obtain ⟨t21, AQ20_, H⟩ := Option.bind_eq_some_iff.mp H
  have AQ20 := Aside0.mk AQ20_
  clear AQ20_
  (try dsimp only at AQ20 H)
  rcases t21 with _ | _
  · rw [if_neg (by decide)] at H; cases H
  rw [if_pos rfl] at H
  by_cases c27 : (t18 != t3) = true
  · rw [if_pos c27] at H; cases H
  rw [if_neg c27] at H
  have c27b0 : (t18 != t3) = false := by simpa using c27
  have c27b1 : decide (t18 = t3) = true := by simpa using c27
  have c27b2 : (t18 == t3) = true := by simpa using c27
  clear c27
  obtain ⟨t23, AQ22_, H⟩ := Option.bind_eq_some_iff.mp H
  have AQ22 := Aside0.mk AQ22_
  clear AQ22_
  (try dsimp only at AQ22 H)
  by_cases c28 : t23 < 0
  · rw [if_pos c28] at H; cases H
  rw [if_neg c28] at H
  have c28b0 : decide (t23 < 0) = false := decide_eq_false c28
  clear c28
  by_cases c29 : t23 = t12
  rotate_left
  · rw [if_neg c29] at H; cases H
  rw [if_pos c29] at H
  have c29b0 : (t23 == t12) = true := beq_iff_eq.mpr c29
  have c29b1 : (t23 != t12) = false := bne_eq_false_iff_eq.mpr c29
  clear c29
  obtain rfl := Option.some.inj H
  clear H
  go_enter Try.func4, Try.ntmps4
  try go_wp2_with (first | ((with_reducible refine gate_dst (N := 19) rfl ?_); refine goesL_ (some 19) rfl rfl Try.func23 (by kernel_rfl) rfl #[.int .i64 a0, .int .i64 a1, .int .i64 a2] rfl (by (try simp only [List.map_toArray, List.map_cons, List.map_nil]); first | done | rfl) ?_; (with_reducible refine (spec_FirstPairList.calls k a0 a1 a2 t2 t3 _  AQ1.out).mono ?_); rintro e W1 ⟨v4, rfl, ho4, hb⟩; refine ⟨_, rfl, ?_⟩; obtain ⟨B4, d4, e_⟩ := Kd.R_slice ho4; subst e_; obtain ⟨lo4, hi4, nn, ht_, hO4⟩ := laws_FnExactFirstPairList.newR ho4 HT.out (below_size HB.out) hb.size; replace HB := Aside0.mk (below_step HB.out hb); replace HT := Aside0.mk (Nat.le_trans HT.out hb.size); have HO4 := Aside0.mk hO4; replace HT := Aside0.mk ht_; replace HN := Aside0.mk (And.intro nn HN.out); clear ho4 hO4 nn ht_; clear hb) | ((with_reducible refine gate_dst (N := 26) rfl ?_); refine goesL_ (some 26) rfl rfl Try.func24 (by kernel_rfl) rfl #[.int .i64 a0, .int .i64 a1, .int .i64 a2] rfl (by (try simp only [List.map_toArray, List.map_cons, List.map_nil]); first | done | rfl) ?_; (with_reducible refine (impl_FirstPairList.calls k a0 a1 a2 t6 t7 _  AQ5.out).mono ?_); rintro e W2 ⟨v8, rfl, ho8, hb⟩; refine ⟨_, rfl, ?_⟩; obtain ⟨B8, d8, e_⟩ := Kd.R_slice ho8; subst e_; obtain ⟨lo8, hi8, nn, ht_, hO8⟩ := laws_FnExactFirstPairList.newR ho8 HT.out (below_size HB.out) hb.size; replace HO4 := Aside0.mk (Kd.R_below HO4.out hb); replace HB := Aside0.mk (below_step HB.out hb); replace HT := Aside0.mk (Nat.le_trans HT.out hb.size); have HO8 := Aside0.mk hO8; replace HT := Aside0.mk ht_; replace HN := Aside0.mk (And.intro nn HN.out); clear ho8 hO8 nn ht_; clear hb) | ((with_reducible refine gate_dst (N := 31) rfl ?_); refine goesL_ (some 31) rfl rfl Try.func22 (by kernel_rfl) rfl #[.slice B8 t6.length d8, .slice B4 t2.length d4] rfl (by (try simp only [List.map_toArray, List.map_cons, List.map_nil]); first | done | rfl) ?_; (with_reducible refine (laws_eqIntS.calls k _ _ t6 _ _ t2 true _ (Kd.R_reads' HO8.out).2.2 (Kd.R_reads' HO8.out).2.1 (Kd.R_reads' HO4.out).2.2 (Kd.R_reads' HO4.out).2.1 AQ9.out).mono ?_); rintro e W3 ⟨rfl, hd⟩; have hb := hd.below; clear hd; refine ⟨_, rfl, ?_⟩; replace HO4 := Aside0.mk (Kd.R_below HO4.out hb); replace HO8 := Aside0.mk (Kd.R_below HO8.out hb); replace HB := Aside0.mk (below_step HB.out hb); replace HT := Aside0.mk (Nat.le_trans HT.out hb.size); clear hb) | ((with_reducible refine gate_dst (N := 40) rfl ?_); refine goesL_ (some 40) rfl rfl Try.func25 (by kernel_rfl) rfl #[.slice B8 t6.length d8, .int .i64 1] rfl (by (try simp only [List.map_toArray, List.map_cons, List.map_nil]); first | done | rfl) ?_; (with_reducible refine (laws_markIntS.calls k (fun k_ => lo8 ≤ k_ ∧ k_ < hi8) (.slice B8 t6.length d8) t6 1 t12 t13 w _ HB.out HO8.out AQ11.out).mono ?_); rintro e W4 ⟨rfl, hy0, hb, hkp⟩; refine ⟨_, rfl, ?_⟩; replace HO4 := Aside0.mk (laws_FnExactFirstPairList.keptR HO4.out hkp (by have hn_ := HN.out; omega)); replace HO8 := Aside0.mk (Kd.R_reok rfl hy0 (fun k_ e_ => HO8.out.1 k_ e_)); replace HB := Aside0.mk hb; replace HT := Aside0.mk (Nat.le_trans HT.out hkp.1); clear hy0 hb hkp; have hl_ := (Kd.R_reads' HO8.out).1; rw [hl_] at HO8; (try simp only [hl_]); clear hl_) | ((with_reducible refine gate_dst (N := 43) rfl ?_); refine goesL_ (some 43) rfl rfl Try.func26 (by kernel_rfl) rfl #[.slice B8 t13.length d8, .int .i64 1] rfl (by (try simp only [List.map_toArray, List.map_cons, List.map_nil]); first | done | rfl) ?_; (with_reducible refine (laws_heldIntS.calls k _ _ t13 1 t15 _ (Kd.R_reads' HO8.out).2.2 (Kd.R_reads' HO8.out).2.1 AQ14.out).mono ?_); rintro e W5 ⟨rfl, hd⟩; have hb := hd.below; clear hd; refine ⟨_, rfl, ?_⟩; replace HO4 := Aside0.mk (Kd.R_below HO4.out hb); replace HO8 := Aside0.mk (Kd.R_below HO8.out hb); replace HB := Aside0.mk (below_step HB.out hb); replace HT := Aside0.mk (Nat.le_trans HT.out hb.size); clear hb) | ((with_reducible refine gate_dst (N := 53) rfl ?_); refine goesL_ (some 53) rfl rfl Try.func24 (by kernel_rfl) rfl #[.int .i64 a0, .int .i64 a1, .int .i64 a2] rfl (by (try simp only [List.map_toArray, List.map_cons, List.map_nil]); first | done | rfl) ?_; (with_reducible refine (impl_FirstPairList.calls k a0 a1 a2 t17 t18 _  AQ16.out).mono ?_); rintro e W6 ⟨v19, rfl, ho19, hb⟩; refine ⟨_, rfl, ?_⟩; obtain ⟨B19, d19, e_⟩ := Kd.R_slice ho19; subst e_; obtain ⟨lo19, hi19, nn, ht_, hO19⟩ := laws_FnExactFirstPairList.newR ho19 HT.out (below_size HB.out) hb.size; replace HO4 := Aside0.mk (Kd.R_below HO4.out hb); replace HO8 := Aside0.mk (Kd.R_below HO8.out hb); replace HB := Aside0.mk (below_step HB.out hb); replace HT := Aside0.mk (Nat.le_trans HT.out hb.size); have HO19 := Aside0.mk hO19; replace HT := Aside0.mk ht_; replace HN := Aside0.mk (And.intro nn HN.out); clear ho19 hO19 nn ht_; clear hb) | ((with_reducible refine gate_dst (N := 58) rfl ?_); refine goesL_ (some 58) rfl rfl Try.func22 (by kernel_rfl) rfl #[.slice B19 t17.length d19, .slice B4 t2.length d4] rfl (by (try simp only [List.map_toArray, List.map_cons, List.map_nil]); first | done | rfl) ?_; (with_reducible refine (laws_eqIntS.calls k _ _ t17 _ _ t2 true _ (Kd.R_reads' HO19.out).2.2 (Kd.R_reads' HO19.out).2.1 (Kd.R_reads' HO4.out).2.2 (Kd.R_reads' HO4.out).2.1 AQ20.out).mono ?_); rintro e W7 ⟨rfl, hd⟩; have hb := hd.below; clear hd; refine ⟨_, rfl, ?_⟩; replace HO4 := Aside0.mk (Kd.R_below HO4.out hb); replace HO8 := Aside0.mk (Kd.R_below HO8.out hb); replace HO19 := Aside0.mk (Kd.R_below HO19.out hb); replace HB := Aside0.mk (below_step HB.out hb); replace HT := Aside0.mk (Nat.le_trans HT.out hb.size); clear hb; clear HO4 HO19) | ((with_reducible refine gate_dst (N := 67) rfl ?_); refine goesL_ (some 67) rfl rfl Try.func26 (by kernel_rfl) rfl #[.slice B8 t13.length d8, .int .i64 1] rfl (by (try simp only [List.map_toArray, List.map_cons, List.map_nil]); first | done | rfl) ?_; (with_reducible refine (laws_heldIntS.calls k _ _ t13 1 t23 _ (Kd.R_reads' HO8.out).2.2 (Kd.R_reads' HO8.out).2.1 AQ22.out).mono ?_); rintro e W8 ⟨rfl, hd⟩; have hb := hd.below; clear hd; refine ⟨_, rfl, ?_⟩; replace HO8 := Aside0.mk (Kd.R_below HO8.out hb); replace HB := Aside0.mk (below_step HB.out hb); replace HT := Aside0.mk (Nat.le_trans HT.out hb.size); clear hb; clear HO8))
  go_ret
  exact ⟨by first | rfl | (simp; done) | (simp [*]; done), HB.out⟩

end Go.Proofs.Ytlmiojnkjlnmjaa.G
