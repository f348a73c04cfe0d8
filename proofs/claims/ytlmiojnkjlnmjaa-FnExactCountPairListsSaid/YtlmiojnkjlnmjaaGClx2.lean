-- Laid by wip/gprint.py (the session's own program, round the kit's printer) for this claim.
import Derived.Test.YtlmiojnkjlnmjaaGClx0
import Derived.Test.YtlmiojnkjlnmjaaGClx1
namespace Go.Proofs.Ytlmiojnkjlnmjaa.G
open Go.RowKit Go.Proofs.YtlmiojnkjlnmjaaW.PrintWords Go.Proofs.YtlmiojnkjlnmjaaW.PrintLast Go.Proofs.YtlmiojnkjlnmjaaW.PrintMore
attribute [local go_sem] max2_int min2_int max_two min_two max_three min_three max_four min_four   -- for this text's walks alone
set_option linter.unusedVariables false
set_option linter.unusedSimpArgs false

/-! ### impl_pace: function 70 -/
def impl_pace.cmpI (a b : Int) : Int := if a < b then -1 else if a > b then 1 else 0
def impl_pace.cf (l : List Int) (x y : Int) : Int := if impl_pace.cmpI (rd l x) (rd l y) = 0 then impl_pace.cmpI x y else impl_pace.cmpI (rd l x) (rd l y)
theorem impl_pace.cmp (a b : Int) (W : World) : Calls Try.prog 88 #[.int .i64 a, .int .i64 b] W fun e w' => e = .returned (.int .i64 (impl_pace.cmpI a b)) ∧ Drawn0 W w' := by
  refine cmp_Compare_int.calls a b _ W ?_
  unfold cmp_Compare_int.f cmp_isNaN_int.f impl_pace.cmpI
  simp only [bne_self_eq_false, Option.bind_some]
  by_cases h : a < b
  · simp [h]
  · by_cases h2 : b < a <;> simp [h, h2]
theorem impl_pace.orI (a b : Int) (W : World) (A : Option Addr) (cap : Nat) (hr : Kd.C (Kd.int .i64) W A 2 [a, b]) (hc : 2 ≤ cap) : Calls Try.prog 87 #[.slice A 2 cap] W fun e w' => e = .returned (.int .i64 (if a = 0 then b else a)) ∧ Drawn0 W w' := by
  refine cmp_Or_int.calls 4 A cap [a, b] _ W hr hc ?_
  unfold cmp_Or_int.f
  have h1 : wrap64 (0 + 1) = 1 := by unfold wrap64; omega
  have h2 : wrap64 (1 + 1) = 2 := by unfold wrap64; omega
  have r0 : rd [a, b] 0 = a := rfl
  have r1 : rd [a, b] 1 = b := rfl
  simp only [cmp_Or_int.l0, List.length_cons, List.length_nil, h1, h2, r0, r1]
  by_cases h : a = 0
  · by_cases h3 : b = 0 <;> simp [h, h3]
  · simp [h]
theorem impl_pace.world (W : World) (o : Obj) (a b c : Nat) : (((W.drew.drewN a).drewN b).alloc o).drewN c = Go.Sort.grow (W.drewN (1 + a + b + c)) #[o] := by
  obtain ⟨⟩ := W
  simp only [World.drewN, World.drew, World.alloc, Go.Sort.grow, Array.push_eq_append]
  congr 1
  omega
set_option maxHeartbeats 4000000 in
set_option maxRecDepth 100000 in
theorem impl_pace.closure (ad : Addr) (c : Nat) (l : List Int) (x y : Nat) (hx : x < l.length) (hy : y < l.length) (B : Nat) (W : World) (hb : W.cell? ⟨B, 0, none⟩ = some (.slice (some ad) l.length c)) (hcx : W.cell? (ad.add x) = some (.int .i64 (rd l (x : Int)))) (hcy : W.cell? (ad.add y) = some (.int .i64 (rd l (y : Int)))) :
    Calls Try.prog 86 #[.int .i64 x, .int .i64 y, .pointer (some ⟨B, 0, none⟩)] W fun e w' => e = .returned (.int .i64 (impl_pace.cf l x y)) ∧ ∃ q os', w' = Go.Sort.grow (W.drewN q) os' := by
  have hcmp := impl_pace.cmp
  have hx0 : (0 : Int) ≤ (x : Int) := by omega
  have hy0 : (0 : Int) ≤ (y : Int) := by omega
  have hx1 : ((x : Int) < (l.length : Int)) := by omega
  have hy1 : ((y : Int) < (l.length : Int)) := by omega
  have p1 := eq_true hx0
  have p2 := eq_true hy0
  have p3 := eq_true hx1
  have p4 := eq_true hy1
  have p5 := eq_true hx
  have p6 := eq_true hy
  go_enter Try.func86, Try.ntmps86
  go_wp2
  refine start_ (n := 15) (S := fun w' => w'.cell? ⟨B, 0, none⟩ = some (.slice (some ad) l.length c) ∧ w'.cell? (ad.add x) = some (.int .i64 (rd l (x : Int))) ∧ w'.cell? (ad.add y) = some (.int .i64 (rd l (y : Int)))) (ds := []) #[false, false, false, false, false, false, false, false, false, false, false, false, false, false, false] (by kernel_rfl) rfl rfl ⟨hb, hcx, hcy⟩ (fun hHeld => ?_)
  refine take_ (i := 0) (N := some 6) (v := ?_) (a' := ?_) #[true, false, false, false, false, false, false, false, false, false, false, false, false, false, false] rfl rfl (by kernel_rfl) (fun _ _ _ h => h) (Or.inl ⟨by rfl, ?_⟩) hHeld ?_ ?_
  rotate_left
  · rintro w' ⟨s0, s1, s2⟩
    go_simp
    with_reducible rfl
  rotate_left
  · simp only [Act.put, List.setIfInBounds_toArray, List.set_cons_zero, List.set_cons_succ, i64_w, i32_w]
    rfl
  refine pure_ (i := 1) (N := some 7) (v := ?_) (a' := ?_) #[true, true, false, false, false, false, false, false, false, false, false, false, false, false, false] rfl rfl (by kernel_rfl) (fun _ _ _ h => h) (Or.inl ⟨by rfl, ?_⟩) ?_ ?_
  rotate_left
  · intro w'
    go_simp
    with_reducible rfl
  rotate_left
  · simp only [Act.put, List.setIfInBounds_toArray, List.set_cons_zero, List.set_cons_succ, i64_w, i32_w]
    rfl
  refine pure_ (i := 2) (N := some 8) (v := ?_) (a' := ?_) #[true, true, true, false, false, false, false, false, false, false, false, false, false, false, false] rfl rfl (by kernel_rfl) (fun _ _ _ h => h) (Or.inl ⟨by rfl, ?_⟩) ?_ ?_
  rotate_left
  · intro w'
    go_simp
    with_reducible rfl
  rotate_left
  · simp only [Act.put, List.setIfInBounds_toArray, List.set_cons_zero, List.set_cons_succ, i64_w, i32_w]
    rfl
  refine take_ (i := 3) (N := some 9) (v := ?_) (a' := ?_) #[true, true, true, true, false, false, false, false, false, false, false, false, false, false, false] rfl rfl (by kernel_rfl) (fun _ _ _ h => h) (Or.inl ⟨by rfl, ?_⟩) hHeld ?_ ?_
  rotate_left
  · rintro w' ⟨s0, s1, s2⟩
    go_simp
    with_reducible rfl
  rotate_left
  · simp only [Act.put, List.setIfInBounds_toArray, List.set_cons_zero, List.set_cons_succ, i64_w, i32_w]
    rfl
  refine take_ (i := 4) (N := some 10) (v := ?_) (a' := ?_) #[true, true, true, true, true, false, false, false, false, false, false, false, false, false, false] rfl rfl (by kernel_rfl) (fun _ _ _ h => h) (Or.inl ⟨by rfl, ?_⟩) hHeld ?_ ?_
  rotate_left
  · rintro w' ⟨s0, s1, s2⟩
    go_simp
    with_reducible rfl
  rotate_left
  · simp only [Act.put, List.setIfInBounds_toArray, List.set_cons_zero, List.set_cons_succ, i64_w, i32_w]
    rfl
  refine pure_ (i := 5) (N := some 11) (v := ?_) (a' := ?_) #[true, true, true, true, true, true, false, false, false, false, false, false, false, false, false] rfl rfl (by kernel_rfl) (fun _ _ _ h => h) (Or.inl ⟨by rfl, ?_⟩) ?_ ?_
  rotate_left
  · intro w'
    go_simp
    with_reducible rfl
  rotate_left
  · simp only [Act.put, List.setIfInBounds_toArray, List.set_cons_zero, List.set_cons_succ, i64_w, i32_w]
    rfl
  refine pure_ (i := 6) (N := some 12) (v := ?_) (a' := ?_) #[true, true, true, true, true, true, true, false, false, false, false, false, false, false, false] rfl rfl (by kernel_rfl) (fun _ _ _ h => h) (Or.inl ⟨by rfl, ?_⟩) ?_ ?_
  rotate_left
  · intro w'
    go_simp
    with_reducible rfl
  rotate_left
  · simp only [Act.put, List.setIfInBounds_toArray, List.set_cons_zero, List.set_cons_succ, i64_w, i32_w]
    rfl
  refine take_ (i := 7) (N := some 13) (v := ?_) (a' := ?_) #[true, true, true, true, true, true, true, true, false, false, false, false, false, false, false] rfl rfl (by kernel_rfl) (fun _ _ _ h => h) (Or.inl ⟨by rfl, ?_⟩) hHeld ?_ ?_
  rotate_left
  · rintro w' ⟨s0, s1, s2⟩
    go_simp
    with_reducible rfl
  rotate_left
  · simp only [Act.put, List.setIfInBounds_toArray, List.set_cons_zero, List.set_cons_succ, i64_w, i32_w]
    rfl
  refine pure_ (i := 9) (N := some 15) (v := ?_) (a' := ?_) #[true, true, true, true, true, true, true, true, false, true, false, false, false, false, false] rfl rfl (by kernel_rfl) (fun _ _ _ h => h) (Or.inl ⟨by rfl, ?_⟩) ?_ ?_
  rotate_left
  · intro w'
    go_simp
    with_reducible rfl
  rotate_left
  · simp only [Act.put, List.setIfInBounds_toArray, List.set_cons_zero, List.set_cons_succ, i64_w, i32_w]
    rfl
  refine pure_ (i := 10) (N := some 16) (v := ?_) (a' := ?_) #[true, true, true, true, true, true, true, true, false, true, true, false, false, false, false] rfl rfl (by kernel_rfl) (fun _ _ _ h => h) (Or.inl ⟨by rfl, ?_⟩) ?_ ?_
  rotate_left
  · intro w'
    go_simp
    with_reducible rfl
  rotate_left
  · simp only [Act.put, List.setIfInBounds_toArray, List.set_cons_zero, List.set_cons_succ, i64_w, i32_w]
    rfl
  refine one_ (i := 8) (N := some 14) #[true, true, true, true, true, true, true, true, true, true, true, false, false, false, false] rfl rfl (by kernel_rfl) (by decide) (fun K hK => ?_)
  refine goes_ Try.func88 (by kernel_rfl) rfl #[.int .i64 (rd l (x : Int)), .int .i64 (rd l (y : Int))] (by rfl) rfl rfl (by (try simp only [List.map_toArray, List.map_cons, List.map_nil]); first | done | rfl) ?_
  refine (hcmp (rd l (x : Int)) (rd l (y : Int)) _).mono ?_
  rintro e w' ⟨rfl, ⟨q1, rfl⟩⟩
  refine ⟨_, rfl, ?_⟩
  refine hK.out _ _ ⟨hHeld.1, hHeld.2.1, hHeld.2.2⟩ (fun hHeld => ?_)
  clear hK K
  refine norm_ (a' := ?_) ?_ ?_
  rotate_left
  · show Act.put _ (some 14) _ = _
    simp only [Act.put, List.setIfInBounds_toArray, List.set_cons_zero, List.set_cons_succ, i64_w, i32_w]
    rfl
  refine one_ (i := 11) (N := some 17) #[true, true, true, true, true, true, true, true, true, true, true, true, false, false, false] rfl rfl (by kernel_rfl) (by decide) (fun K hK => ?_)
  refine goes_ Try.func88 (by kernel_rfl) rfl #[.int .i64 (x : Int), .int .i64 (y : Int)] (by rfl) rfl rfl (by (try simp only [List.map_toArray, List.map_cons, List.map_nil]); first | done | rfl) ?_
  refine (hcmp (x : Int) (y : Int) _).mono ?_
  rintro e w' ⟨rfl, ⟨q2, rfl⟩⟩
  refine ⟨_, rfl, ?_⟩
  refine hK.out _ _ ⟨hHeld.1, hHeld.2.1, hHeld.2.2⟩ (fun hHeld => ?_)
  clear hK K
  refine norm_ (a' := ?_) ?_ ?_
  rotate_left
  · show Act.put _ (some 17) _ = _
    simp only [Act.put, List.setIfInBounds_toArray, List.set_cons_zero, List.set_cons_succ, i64_w, i32_w]
    rfl
  generalize hW1 : (W.drew.drewN q1).drewN q2 = W1 at hHeld ⊢
  generalize hc1 : impl_pace.cmpI (rd l (x : Int)) (rd l (y : Int)) = c1
  generalize hc2 : impl_pace.cmpI (x : Int) (y : Int) = c2
  have HC1 := Aside0.mk hc1
  have HC2 := Aside0.mk hc2
  clear hc1 hc2
  obtain ⟨c3, hc3⟩ : ∃ c3, c3 = (if c1 = 0 then c2 else c1) := ⟨_, rfl⟩
  have HC3 := Aside0.mk hc3
  clear hc3
  refine one_ (i := 12) (N := some 18) #[true, true, true, true, true, true, true, true, true, true, true, true, true, false, false] rfl rfl (by kernel_rfl) (by decide) (fun K hK => ?_)
  refine event_step (v := .slice (some ⟨W1.heap.size, 0, none⟩) 2 2) (w1 := W1.alloc (.cells #[.int .i64 c1, .int .i64 c2] 3)) (by rfl) ?hr ?_
  (case hr => first | (go_simp; done) | (go_simp; rfl))
  refine hK.out _ _ ⟨pw_cell_below (below_alloc (Below.refl _ _) _) hHeld.1, pw_cell_below (below_alloc (Below.refl _ _) _) hHeld.2.1, pw_cell_below (below_alloc (Below.refl _ _) _) hHeld.2.2⟩ (fun hHeld => ?_)
  clear hK K
  refine norm_ (a' := ?_) ?_ ?_
  rotate_left
  · show Act.put _ (some 18) _ = _
    simp only [Act.put, List.setIfInBounds_toArray, List.set_cons_zero, List.set_cons_succ, i64_w, i32_w]
    rfl
  refine one_ (i := 13) (N := some 19) #[true, true, true, true, true, true, true, true, true, true, true, true, true, true, false] rfl rfl (by kernel_rfl) (by decide) (fun K hK => ?_)
  have hR : Kd.R (Kd.int .i64) 3 (W1.alloc (.cells #[.int .i64 c1, .int .i64 c2] 3)) W1.heap.size (fun _ => True) (.slice (some ⟨W1.heap.size, 0, none⟩) 2 2) [c1, c2] := Kd.R_of_own (enc := Value.int .i64) (h1 := fun _ => rfl) (by have h2 := World.ownsRow_lit (base := W1.heap.size) (e := 3) (size := 1) W1 #[.int .i64 c1, .int .i64 c2] 2 (Nat.le_refl _) (by decide) (by rfl); simpa [encs] using h2) (fun _ _ => trivial)
  refine goes_ Try.func87 (by kernel_rfl) rfl #[.slice (some ⟨W1.heap.size, 0, none⟩) 2 2] (by rfl) rfl rfl (by (try simp only [List.map_toArray, List.map_cons, List.map_nil]); first | done | rfl) ?_
  have hor := impl_pace.orI c1 c2 _ _ 2 (Kd.R_reads' hR).2.2 (Nat.le_refl _)
  rw [← HC3.out] at hor
  refine hor.mono ?_
  rintro e w' ⟨rfl, ⟨q3, rfl⟩⟩
  refine ⟨_, rfl, ?_⟩
  refine hK.out _ _ ⟨hHeld.1, hHeld.2.1, hHeld.2.2⟩ (fun hHeld => ?_)
  clear hK K
  refine norm_ (a' := ?_) ?_ ?_
  rotate_left
  · show Act.put _ (some 19) _ = _
    simp only [Act.put, List.setIfInBounds_toArray, List.set_cons_zero, List.set_cons_succ, i64_w, i32_w]
    rfl
  refine pure_ (i := 14) (N := some 5) (v := ?_) (a' := ?_) #[true, true, true, true, true, true, true, true, true, true, true, true, true, true, true] rfl rfl (by kernel_rfl) (fun _ _ _ h => h) (Or.inl ⟨by rfl, ?_⟩) ?_ ?_
  rotate_left
  · intro w'
    go_simp
    with_reducible rfl
  rotate_left
  · simp only [Act.put, List.setIfInBounds_toArray, List.set_cons_zero, List.set_cons_succ, i64_w, i32_w]
    rfl
  refine done_ (by kernel_rfl) ?_
  go_wp2
  go_ret
  refine ⟨?_, 1 + q1 + q2 + q3, #[.cells #[.int .i64 c1, .int .i64 c2] 3], ?_⟩
  · unfold impl_pace.cf
    rw [HC1.out, HC2.out, ← HC3.out]
    rfl
  · rw [← hW1]
    exact impl_pace.world W _ q1 q2 q3
def impl_pace.lays_ren : Go.Shelf.Ren := ⟨fun | 6 => 85 | 15 => 98 | 14 => 97 | 28 => 111 | 29 => 112 | 20 => 103 | 21 => 104 | 22 => 105 | 23 => 106 | 24 => 107 | 25 => 108 | 26 => 109 | 27 => 110 | 46 => 123 | 47 => 124 | 48 => 125 | 49 => 126 | 50 => 127 | 57 => 131 | n => n, fun | 22 => 22 | 24 => 3 | 25 => 62 | 3 => 3 | 39 => 75 | 0 => 0 | 53 => 87 | 55 => 89 | 4 => 4 | 46 => 81 | 45 => 80 | 50 => 23 | 5 => 5 | 9 => 9 | 66 => 95 | 70 => 99 | 76 => 103 | 77 => 104 | n => n, fun | n => n⟩
theorem impl_pace.lays : SlLaysF.n6 Try.prog impl_pace.lays_ren where
  mixed := by kernel_rfl
  f6 := ⟨Try.f85.name, by decide, Try.func85.trans (congrArg some (by kernel_rfl))⟩
  f14 := ⟨Try.f97.name, by decide, Try.func97.trans (congrArg some (by kernel_rfl))⟩
  f15 := Try.func98.trans (congrArg some (by kernel_rfl))
  f20 := ⟨Try.f103.name, by decide, Try.func103.trans (congrArg some (by kernel_rfl))⟩
  f21 := ⟨Try.f104.name, by decide, Try.func104.trans (congrArg some (by kernel_rfl))⟩
  f22 := ⟨Try.f105.name, by decide, Try.func105.trans (congrArg some (by kernel_rfl))⟩
  f23 := ⟨Try.f106.name, by decide, Try.func106.trans (congrArg some (by kernel_rfl))⟩
  f24 := ⟨Try.f107.name, by decide, Try.func107.trans (congrArg some (by kernel_rfl))⟩
  f25 := ⟨Try.f108.name, by decide, Try.func108.trans (congrArg some (by kernel_rfl))⟩
  f26 := ⟨Try.f109.name, by decide, Try.func109.trans (congrArg some (by kernel_rfl))⟩
  f27 := ⟨Try.f110.name, by decide, Try.func110.trans (congrArg some (by kernel_rfl))⟩
  f28 := Try.func111.trans (congrArg some (by kernel_rfl))
  f29 := Try.func112.trans (congrArg some (by kernel_rfl))
  f46 := ⟨Try.f123.name, by decide, Try.func123.trans (congrArg some (by kernel_rfl))⟩
  f47 := Try.func124.trans (congrArg some (by kernel_rfl))
  f48 := Try.func125.trans (congrArg some (by kernel_rfl))
  f49 := ⟨Try.f126.name, by decide, Try.func126.trans (congrArg some (by kernel_rfl))⟩
  f50 := ⟨Try.f127.name, by decide, Try.func127.trans (congrArg some (by kernel_rfl))⟩
  f57 := ⟨Try.f131.name, by decide, Try.func131.trans (congrArg some (by kernel_rfl))⟩
  t0 := Try.underlying0
  a0 := Try.isAgg0
  z0 := Try.sizeOf0
  v0 := Try.zeroValue0
  t3 := Try.underlying3
  a3 := Try.isAgg3
  z3 := Try.sizeOf3
  v3 := Try.zeroValue3
  t4 := Try.underlying4
  a4 := Try.isAgg4
  z4 := Try.sizeOf4
  v4 := Try.zeroValue4
  t5 := Try.underlying5
  a5 := Try.isAgg5
  z5 := Try.sizeOf5
  v5 := Try.zeroValue5
  t9 := Try.underlying9
  a9 := Try.isAgg9
  z9 := Try.sizeOf9
  v9 := Try.zeroValue9
  t22 := Try.underlying22
  a22 := Try.isAgg22
  z22 := Try.sizeOf22
  v22 := Try.zeroValue22
  a24 := Try.isAgg3
  z24 := Try.sizeOf3
  t25 := Try.underlying62
  a25 := Try.isAgg62
  z25 := Try.sizeOf62
  v25 := Try.zeroValue62
  t39 := Try.underlying75
  a39 := Try.isAgg75
  z39 := Try.sizeOf75
  v39 := Try.zeroValue75
  t45 := Try.underlying80
  a45 := Try.isAgg80
  z45 := Try.sizeOf80
  v45 := Try.zeroValue80
  t46 := Try.underlying81
  a46 := Try.isAgg81
  z46 := Try.sizeOf81
  v46 := Try.zeroValue81
  t50 := Try.underlying23
  a50 := Try.isAgg23
  z50 := Try.sizeOf23
  v50 := Try.zeroValue23
  t53 := Try.underlying87
  a53 := Try.isAgg87
  z53 := Try.sizeOf87
  v53 := Try.zeroValue87
  t55 := Try.underlying89
  a55 := Try.isAgg89
  z55 := Try.sizeOf89
  v55 := Try.zeroValue89
  t66 := Try.underlying95
  a66 := Try.isAgg95
  z66 := Try.sizeOf95
  v66 := Try.zeroValue95
  t70 := Try.underlying99
  a70 := Try.isAgg99
  z70 := Try.sizeOf99
  v70 := Try.zeroValue99
  t76 := Try.underlying103
  a76 := Try.isAgg103
  z76 := Try.sizeOf103
  v76 := Try.zeroValue103
  t77 := Try.underlying104
  a77 := Try.isAgg104
  z77 := Try.sizeOf104
  v77 := Try.zeroValue104
def impl_pace.idx (n : Nat) : List Int := (List.range n).map fun (i : Nat) => (i : Int)
def impl_pace.before (l : List Int) (x y : Int) : Bool := !decide (impl_pace.cf l y x < 0)
def impl_pace.paceL (l : List Int) : List Int := ((List.finRange l.length).mergeSort fun x y => impl_pace.before l (x.val : Int) (y.val : Int)).map fun x => (x.val : Int)
def impl_pace.f (l0 : List Int) : Option (List Int) := if 0 < l0.length ∧ l0.length ≤ 1048576 then some (impl_pace.paceL l0) else none
theorem impl_pace.cf_neg (l : List Int) (x y : Int) : impl_pace.cf l x y < 0 ↔ rd l x < rd l y ∨ (rd l x = rd l y ∧ x < y) := by
  unfold impl_pace.cf impl_pace.cmpI
  by_cases h1 : rd l x < rd l y
  · simp [h1]
  · by_cases h2 : rd l x > rd l y
    · simp [h1, h2]
      omega
    · have h3 : rd l x = rd l y := by omega
      by_cases h4 : x < y
      · simp [h3, h4]
      · by_cases h5 : x > y <;> simp [h3, h4, h5]
theorem impl_pace.far {α : Type} [Inhabited α] (enc : α → Value) (w : World) (blk off m : Nat) (dk : Array α) (os : Array Obj) (k : Nat) (hk : k < w.heap.size) (hne : k ≠ blk) : (sortWorld enc w blk off m dk os).heap[k]? = w.heap[k]? := by
  unfold sortWorld
  rw [Go.Sort.heap_grow_old _ _ (by simpa using hk)]
  simp [Go.Sort.putRow, Go.Sort.mapBlock, Sort.ahead, Array.getElem?_modify, Ne.symm hne]
theorem impl_pace.heap {α : Type} [Inhabited α] (enc : α → Value) (w : World) (g m : Nat) (d : Array α) (os : Array Obj) {cur : Array Value} {e : TypeId} {fr : Nat × Nat} (hb : w.heap[g]? = some (.cells cur e fr)) :
    (sortWorld enc w g 0 m d os).heap[g]? = some (.cells (Go.Sort.putCells enc 0 d cur) e fr) := by
  have hg : g < w.heap.size := (Array.getElem?_eq_some_iff.1 hb).1
  unfold sortWorld
  rw [Go.Sort.heap_grow_old _ _ (by simpa using hg)]
  simp [Go.Sort.putRow, Go.Sort.mapBlock, Sort.ahead, Array.getElem?_modify, hb, Go.Sort.onCells]
theorem impl_pace.takes {α : Type} [Inhabited α] (enc : α → Value) (cur : Array Value) (ts : List α) (h : ts.length ≤ cur.size) : (Go.Sort.putCells enc 0 ts.toArray cur).toList.take ts.length = ts.map enc := by
  apply List.ext_getElem?
  intro j
  by_cases hj : j < ts.length
  · rw [List.getElem?_take_of_lt hj, Array.getElem?_toList]
    simp [Go.Sort.putCells, hj, show j < cur.size by omega]
  · rw [List.getElem?_take_eq_none (by omega), List.getElem?_eq_none (by simp; omega)]
theorem impl_pace.grown {α : Type} [Inhabited α] (enc : α → Value) (w : World) (g m : Nat) (d : Array α) (os : Array Obj) : w.grownBy (sortWorld enc w g 0 m d os) (some g) :=
  ⟨rfl, rfl, rfl, by unfold sortWorld; simp, fun k hk hne => impl_pace.far enc w g 0 m d os k hk (fun e => hne (by rw [e]))⟩
set_option maxHeartbeats 4000000 in
theorem impl_pace.sorts (l : List Int) (hl : 0 < l.length) (hl1 : l.length ≤ 1048576) (w W : World) (A0 : Option Addr) (c0 gb : Nat) (v : Value) (hr : Kd.C (Kd.int .i64) w A0 l.length l) (hB : Below w.heap.size w W) (hb : W.heap[gb]? = some (.cells #[.slice A0 l.length c0] 22 (0, 0))) (ho : Kd.R (Kd.int .i64) 3 W w.heap.size (fun _ => True) v (impl_pace.idx l.length)) :
    Calls Try.prog 85 #[v, .func (.func 86) #[] #[.pointer (some ⟨gb, 0, none⟩)]] W fun e w' => e = .returned (.tuple #[]) ∧ Kd.R (Kd.int .i64) 3 w' w.heap.size (fun _ => True) v (impl_pace.paceL l) ∧ Below w.heap.size w w' := by
  haveI : Inhabited (Fin l.length) := ⟨⟨0, hl⟩⟩
  have hne := Kd.R_ne ho hb (by decide)
  have hown := Kd.own_of_R (enc := Value.int .i64) (h1 := fun _ => rfl) ho
  have hil : (impl_pace.idx l.length).length = l.length := by simp [impl_pace.idx]
  rcases hown.2 with ⟨_, hn⟩ | ⟨g, cap, cur, rfl, hbg, hh, hn, hcm, hcs, htake⟩
  · omega
  rw [Nat.mul_one] at hcs htake
  rw [hil] at hn htake hne ⊢
  have hgb : gb ≠ g := fun e => hne (by simp [Value.ownBlock, e])
  have hgW : g < W.heap.size := (Array.getElem?_eq_some_iff.1 hh).1
  have hds : (List.finRange l.length).toArray.size = l.length := by simp
  have hH : Go.Sort.Holds (fun x : Fin l.length => Value.int .i64 (x.val : Int)) W g 0 (List.finRange l.length).toArray := by
    intro j hj
    rw [hds] at hj
    refine ⟨?_, blk_frozen hh _⟩
    rw [cell_of_row W g _ cur 3 (0, 0) hh, Nat.zero_add, ← Array.getElem?_toList]
    have h5 : (cur.toList.take l.length)[j]? = (encs (Value.int .i64) (impl_pace.idx l.length))[j]? := by rw [htake]
    rw [List.getElem?_take, if_pos hj] at h5
    rw [h5, getElem!_pos _ j (by rw [hds]; exact hj)]
    simp [encs, impl_pace.idx, hj]
  have hO : Go.Sort.SWO (ltOf (fun x y : Fin l.length => impl_pace.cf l (x.val : Int) (y.val : Int))) := by
    constructor
    · intro x
      unfold ltOf
      rw [decide_eq_false]
      rw [impl_pace.cf_neg]
      omega
    · intro x y z h1 h2
      unfold ltOf at *
      rw [decide_eq_true_eq, impl_pace.cf_neg] at *
      omega
    · intro x y z h1 h2
      unfold ltOf at *
      rw [decide_eq_false_iff_not, impl_pace.cf_neg] at *
      omega
  have hT : ∀ x y : Fin l.length, ltOf (fun x y : Fin l.length => impl_pace.cf l (x.val : Int) (y.val : Int)) x y = false → ltOf (fun x y : Fin l.length => impl_pace.cf l (x.val : Int) (y.val : Int)) y x = false → x = y := by
    intro x y h1 h2
    unfold ltOf at *
    rw [decide_eq_false_iff_not, impl_pace.cf_neg] at *
    exact Fin.ext (by omega)
  have eg : ∀ args w, (callFunc 86 args).run Try.prog w = .ok (.enter 86 args) w := enters_of Try.func86 (by kernel_rfl) rfl
  have hBs : ∀ (m : Nat) (os : Array Obj) (dk : Array (Fin l.length)), Below w.heap.size w (sortWorld (fun x : Fin l.length => Value.int .i64 (x.val : Int)) W g 0 m dk os) := fun m os dk => Below.grown hB (impl_pace.grown _ W g m dk os) hB.size (fun k hk => by injection hk with hk; subst hk; exact hbg)
  have hcmp : CmpLays1 Try.prog 86 #[.pointer (some ⟨gb, 0, none⟩)] (fun x : Fin l.length => Value.int .i64 (x.val : Int)) (fun x y : Fin l.length => impl_pace.cf l (x.val : Int) (y.val : Int)) g 0 (List.finRange l.length).toArray.size W := by
    intro m os dk _ x y
    obtain ⟨ad, e1, hcx⟩ := Kd.at_int hr (x.val : Int) (by omega) (by have := x.isLt; omega)
    obtain ⟨ad2, e2, hcy⟩ := Kd.at_int hr (y.val : Int) (by omega) (by have := y.isLt; omega)
    cases e1
    cases e2
    rw [Int.toNat_natCast] at hcx hcy
    have hb2 := (impl_pace.far (fun x : Fin l.length => Value.int .i64 (x.val : Int)) W g 0 m dk os gb (Array.getElem?_eq_some_iff.1 hb).1 hgb).trans hb
    exact impl_pace.closure ad c0 l x.val y.val x.isLt y.isLt gb _ ((blk_cell hb2 0).trans rfl) (pw_cell_below (hBs m os dk) hcx) (pw_cell_below (hBs m os dk) hcy)
  have hS := Any.slices_SortFunc_total impl_pace.lays (fun x : Fin l.length => Value.int .i64 (x.val : Int)) (fun _ => rfl) (fun x y : Fin l.length => impl_pace.cf l (x.val : Int) (y.val : Int)) hO 86 #[.pointer (some ⟨gb, 0, none⟩)] g 0 cap (List.finRange l.length).toArray W eg hcmp hH hgW (by rw [hds]; omega) hT
  rw [hds] at hS
  refine Calls.mono (show Calls Try.prog 85 #[.slice (some ⟨g, 0, none⟩) l.length cap, .func (.func 86) #[] #[.pointer (some ⟨gb, 0, none⟩)]] W _ from hS) ?_
  rintro e w' ⟨rfl, n, os, rfl⟩
  refine ⟨rfl, ?_, hBs _ _ _⟩
  have hpl : (impl_pace.paceL l).length = l.length := by simp [impl_pace.paceL]
  refine Kd.R_of_own (enc := Value.int .i64) (h1 := fun _ => rfl) ⟨by simp [encs], .inr ⟨g, cap, _, by rw [hpl], hbg, impl_pace.heap _ W g n _ os hh, by rw [hpl]; exact hn, hcm, by simp [Go.Sort.putCells, hcs], ?_⟩⟩ (fun _ _ => trivial)
  rw [Nat.mul_one]
  have h6 := impl_pace.takes (fun x : Fin l.length => Value.int .i64 (x.val : Int)) cur ((List.finRange l.length).mergeSort fun x y => impl_pace.before l (x.val : Int) (y.val : Int)) (by simp; omega)
  have h7 : ((List.finRange l.length).mergeSort fun x y => impl_pace.before l (x.val : Int) (y.val : Int)).length = (impl_pace.paceL l).length := by simp [impl_pace.paceL]
  rw [h7] at h6
  refine Eq.trans h6 ?_
  simp [encs, impl_pace.paceL]
set_option maxHeartbeats 4000000 in
set_option maxRecDepth 100000 in
theorem impl_pace.calls (A0 : Option Addr) (c0 : Nat) (l0 : List Int) (r : List Int) (w : World) (hr0 : Kd.C (Kd.int .i64) w A0 l0.length l0) (hc0 : l0.length ≤ c0) (h : impl_pace.f l0 = some r) :
    Calls Try.prog 70 #[.slice A0 l0.length c0] w fun e w' => ∃ v0_ : Value, e = .returned (v0_) ∧ Kd.R (Kd.int .i64) 3 w' w.heap.size (fun _ => True) v0_ r ∧ Below w.heap.size w w' := by
  unfold impl_pace.f at h
  by_cases hl : 0 < l0.length ∧ l0.length ≤ 1048576
  · rw [if_pos hl] at h
    obtain rfl := Option.some.inj h
    clear h
    obtain ⟨hl0, hl1⟩ := hl
    have HR0 := Aside0.mk hr0
    have HB := Aside0.mk (Below.refl w.heap.size w)
    clear hr0 hc0
    go_enter Try.func70, Try.ntmps70
    go_wp2_with (first | ((with_reducible refine gate_dst (N := 1) rfl ?_); refine box_event ?hg (N := 1) ?hd (cs := #[.slice A0 l0.length c0]) (t := 22) ?hr ?_; (case hd => rfl); (case hg => rfl); (case hr => first | (go_simp; done) | (go_simp; rfl)); intro gb hg w3 hbox hb; have n0_ := Aside0.mk (below_step HB.out hb); have n1_ := Aside0.mk (hbox); have n2_ := Aside0.mk ((by rw [hg]; exact (below_size HB.out)) : w.heap.size ≤ gb); clear HB; have HB := n0_; have BK := n1_; have GE := n2_; clear n0_ n1_ n2_; clear hb hbox hg) | ((with_reducible refine gate_dst (N := 5) rfl ?_); refine Kd.R_lit (Kd.int .i64) _ 3 ?hg (N := 5) ?hd (xs := ([] : List Int)) (inner := []) (ok := fun _ => True) (okp := fun _ => True) ?hr ?hp (fun _ hk => hk) trivial (Below.refl _ _) (Nat.le_refl _) (by simp) ?_; (case hd => rfl); (case hg => rfl); (case hr => first | (go_simp; done) | (go_simp; rfl)); (case hp => exact (Reps.none _ _)); intro v146 w4 ho5 hb hg_ hnew_; clear hg_ hnew_; have n0_ := Aside0.mk (Kd.R_lower ho5 (below_size HB.out)); have n1_ := Aside0.mk (blk_below (g := gb) (o := .cells #[.slice A0 l0.length c0] 22 (0, 0)) BK.out hb); have n2_ := Aside0.mk (below_step HB.out hb); clear BK; clear HB; have HO := n0_; have BK := n1_; have HB := n2_; clear n0_ n1_ n2_; clear hb ho5; have hcz6_0 : w4.cell? ⟨gb, 0, none⟩ = some (.slice A0 l0.length c0) := (blk_cell BK.out 0).trans rfl))
    go_loopg [3, 4, 8] l0.length (fun gg v3 _ v8 wr => ∃ kk : Nat, v8 = .int .i64 (kk : Int) ∧ kk ≤ l0.length ∧ l0.length - kk ≤ gg ∧ Aside0 (Kd.R (Kd.int .i64) 3 wr w.heap.size (fun _ => True) v3 (impl_pace.idx kk)) ∧ Aside0 (wr.heap[gb]? = some (.cells #[.slice A0 l0.length c0] 22 (0, 0))) ∧ Aside0 (Below w.heap.size w wr))
    case atStart => exact ⟨0, rfl, Nat.zero_le _, by omega, HO, BK, HB⟩
    case round =>
      clear HO BK HB
      obtain ⟨kk, rfl, hk1, hk2, HO, BK, HB⟩ := hrel
      by_cases hlt : kk < l0.length
      · have hlt2 : decide ((kk : Int) < (l0.length : Int)) = true := decide_eq_true (by omega)
        have hlen : (impl_pace.idx kk).length = kk := by simp [impl_pace.idx]
        have hnext : impl_pace.idx kk ++ [(kk : Int)] = impl_pace.idx (kk + 1) := by simp [impl_pace.idx, List.range_succ]
        go_wp2_with (first | ((with_reducible refine gate_builtin (b := .append) (xs := #[.tmp 11, .tmp 13]) rfl ?_); at_builtin; refine Kd.R_append (Kd.int .i64) (w0 := w) w.heap.size rfl (.tmp 11) (.tmp 13) 22 3 (.int .i64 0) 8 rfl Try.underlying22 info3 rfl (by decide) (by omega) u3 (impl_pace.idx kk) (kk : Int) [.int .i64 (kk : Int)] (fun _ => True) (fun _ => False) rfl rfl ?aP (fun _ hk => hk.elim) ?aF ?aO ?aB ?aS ?aL ?_; (case aP => exact rfl); (case aB => exact (by repeat (first | (with_reducible first | exact HB.out | apply below_alloc | apply pw_below_drewN | apply below_drew1) | exact HB.out))); (case aF => exact (fun _ _ => trivial)); (case aO => exact (by (with_reducible repeat (first | apply Kd.R_alloc | apply Kd.R_drewN | apply Kd.R_drew)); exact HO.out)); (case aS => exact (below_size (by repeat (first | (with_reducible first | exact HB.out | apply below_alloc | apply pw_below_drewN | apply below_drew1) | exact HB.out)))); (case aL => rw [hlen]; omega); intro v150 w12 ho hb hg hat; rw [hnext] at ho; have n0_ := Aside0.mk (blk_grown (g := gb) (o := .cells #[.slice A0 l0.length c0] 22 (0, 0)) (by (with_reducible repeat (first | refine blk_drewN ?_ _ | refine blk_drew ?_ | refine blk_alloc ?_ _)); exact BK.out) hg (Kd.R_ne HO.out BK.out (by decide))); have n1_ := Aside0.mk (hb); have n2_ := Aside0.mk (ho); clear BK; clear HB; clear HO; have BK := n0_; have HB := n1_; have HO := n2_; clear n0_ n1_ n2_; clear ho hb hg hat))
        go_roundg (l0.length - (kk + 1))
        case measure => omega
        case rel => exact ⟨kk + 1, by go_num, by omega, by omega, HO, BK, HB⟩
      · have hk3 : kk = l0.length := by omega
        subst hk3
        have hs := impl_pace.sorts l0 hl0 hl1 w wr A0 c0 gb u3 HR0.out HB.out BK.out HO.out
        clear HO BK HB HR0
        go_wp2_with (first | (go_at_call 85; refine hs.mono ?_; rintro e w' ⟨rfl, hR, hBe⟩))
        go_ret
        exact ⟨_, rfl, hR, hBe⟩
  · rw [if_neg hl] at h
    cases h

end Go.Proofs.Ytlmiojnkjlnmjaa.G
