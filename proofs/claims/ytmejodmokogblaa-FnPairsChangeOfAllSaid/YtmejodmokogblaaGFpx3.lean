-- Laid by wip/gprint.py (the session's own program, round the kit's printer) for this claim.
import Derived.Test.YtmejodmokogblaaGFpx0
import Derived.Test.YtmejodmokogblaaGFpx1
namespace Go.Proofs.Ytmejodmokogblaa.G
open Go.RowKit Go.Proofs.YtmejodmokogblaaW.PrintWords Go.Proofs.YtmejodmokogblaaW.PrintLast Go.Proofs.YtmejodmokogblaaW.PrintMore
attribute [local go_sem] max2_int min2_int max_two min_two max_three min_three max_four min_four   -- for this text's walks alone
set_option linter.unusedVariables false
set_option linter.unusedSimpArgs false

/-! ### impl_cross: function 26 -/
def impl_cross.lays_ren : Go.Shelf.Ren := ⟨fun | 189 => 51 | 125 => 59 | 257 => 61 | 128 => 73 | 129 => 74 | 294 => 75 | 295 => 76 | 296 => 77 | 297 => 78 | 298 => 79 | 299 => 80 | 216 => 81 | 300 => 82 | 301 => 83 | 328 => 90 | 329 => 86 | 330 => 87 | 331 => 91 | 332 => 92 | 215 => 60 | 343 => 95 | n => n, fun | 28 => 22 | 3 => 3 | 46 => 66 | 0 => 0 | 51 => 81 | 53 => 83 | 4 => 4 | 183 => 75 | 182 => 74 | 131 => 29 | 5 => 5 | 9 => 9 | 218 => 90 | 222 => 94 | 228 => 98 | 229 => 99 | n => n, fun | n => n⟩
theorem impl_cross.lays : Lays.n189 Try.prog impl_cross.lays_ren where
  mixed := by kernel_rfl
  f125 := Try.func59.trans (congrArg some (by kernel_rfl))
  f128 := Try.func73.trans (congrArg some (by kernel_rfl))
  f129 := Try.func74.trans (congrArg some (by kernel_rfl))
  f189 := Try.func51.trans (congrArg some (by kernel_rfl))
  f215 := Try.func60.trans (congrArg some (by kernel_rfl))
  f216 := Try.func81.trans (congrArg some (by kernel_rfl))
  f257 := Try.func61.trans (congrArg some (by kernel_rfl))
  f294 := Try.func75.trans (congrArg some (by kernel_rfl))
  f295 := Try.func76.trans (congrArg some (by kernel_rfl))
  f296 := Try.func77.trans (congrArg some (by kernel_rfl))
  f297 := Try.func78.trans (congrArg some (by kernel_rfl))
  f298 := Try.func79.trans (congrArg some (by kernel_rfl))
  f299 := Try.func80.trans (congrArg some (by kernel_rfl))
  f300 := Try.func82.trans (congrArg some (by kernel_rfl))
  f301 := Try.func83.trans (congrArg some (by kernel_rfl))
  f328 := Try.func90.trans (congrArg some (by kernel_rfl))
  f329 := Try.func86.trans (congrArg some (by kernel_rfl))
  f330 := Try.func87.trans (congrArg some (by kernel_rfl))
  f331 := Try.func91.trans (congrArg some (by kernel_rfl))
  f332 := Try.func92.trans (congrArg some (by kernel_rfl))
  f343 := Try.func95.trans (congrArg some (by kernel_rfl))
  t0 := Try.underlying0
  a0 := Try.isAgg0
  z0 := Try.sizeOf0
  v0 := Try.zeroValue0
  t3 := Try.underlying3
  a3 := Try.isAgg3
  z3 := Try.sizeOf3
  v3 := Try.zeroValue3
  t4 := Try.underlying4
  a4 := Try.isAgg4
  z4 := Try.sizeOf4
  v4 := Try.zeroValue4
  t5 := Try.underlying5
  a5 := Try.isAgg5
  z5 := Try.sizeOf5
  v5 := Try.zeroValue5
  t9 := Try.underlying9
  a9 := Try.isAgg9
  z9 := Try.sizeOf9
  v9 := Try.zeroValue9
  t28 := Try.underlying22
  a28 := Try.isAgg22
  z28 := Try.sizeOf22
  v28 := Try.zeroValue22
  t46 := Try.underlying66
  a46 := Try.isAgg66
  z46 := Try.sizeOf66
  v46 := Try.zeroValue66
  t51 := Try.underlying81
  a51 := Try.isAgg81
  z51 := Try.sizeOf81
  v51 := Try.zeroValue81
  t53 := Try.underlying83
  a53 := Try.isAgg83
  z53 := Try.sizeOf83
  v53 := Try.zeroValue83
  t131 := Try.underlying29
  a131 := Try.isAgg29
  z131 := Try.sizeOf29
  v131 := Try.zeroValue29
  t182 := Try.underlying74
  a182 := Try.isAgg74
  z182 := Try.sizeOf74
  v182 := Try.zeroValue74
  t183 := Try.underlying75
  a183 := Try.isAgg75
  z183 := Try.sizeOf75
  v183 := Try.zeroValue75
  t218 := Try.underlying90
  a218 := Try.isAgg90
  z218 := Try.sizeOf90
  v218 := Try.zeroValue90
  t222 := Try.underlying94
  a222 := Try.isAgg94
  z222 := Try.sizeOf94
  v222 := Try.zeroValue94
  t228 := Try.underlying98
  a228 := Try.isAgg98
  z228 := Try.sizeOf98
  v228 := Try.zeroValue98
  t229 := Try.underlying99
  a229 := Try.isAgg99
  z229 := Try.sizeOf99
  v229 := Try.zeroValue99
def impl_cross.srt (x : List Int) : List Int := x.mergeSort fun x y => decide (x ≤ y)
theorem impl_cross.srt_length (x : List Int) : (impl_cross.srt x).length = x.length := by simp [impl_cross.srt]
/-- Rows of ints stay as they are. -/
def impl_cross.Stay (W W' : World) : Prop := ∀ (k : Nat) (cells : Array Value), W.heap[k]? = some (.cells cells 3 (0, 0)) → W'.heap[k]? = W.heap[k]?
theorem impl_cross.Stay.trans {W W1 W2 : World} (h : impl_cross.Stay W W1) (k : impl_cross.Stay W1 W2) : impl_cross.Stay W W2 := fun g cells hc => (k g cells ((h g cells hc).trans hc)).trans (h g cells hc)
theorem impl_cross.Stay.of_below {W W1 : World} (h : Below W.heap.size W W1) : impl_cross.Stay W W1 := fun g _ hc => h.block g (blk_lt hc)
theorem impl_cross.Stay.of_grown {W W1 : World} {gb t : Nat} {cs : Array Value} (hb : W.heap[gb]? = some (.cells cs t (0, 0))) (ht : t ≠ 3) (hg : W.grownBy W1 (some gb)) : impl_cross.Stay W W1 := fun g cells hc => hg.block g (blk_lt hc) (fun he => by
  injection he with he
  subst he
  rw [hb] at hc
  injection hc with hc
  injection hc with _ hc
  exact ht hc)
theorem impl_cross.keepR {W W1 : World} {b : Nat} {v : Value} {xs : List Int} (h : Kd.R (Kd.int .i64) 3 W b (fun _ => True) v xs) (hs : impl_cross.Stay W W1) : Kd.R (Kd.int .i64) 3 W1 b (fun _ => True) v xs :=
  Kd.R_mono (Kd.R_move (Kd.R_bound h) (fun k hk => by
    obtain ⟨_, _, _, q, hq, cells, hc⟩ := hk
    have hq2 : q = 3 := by
      rcases List.mem_cons.1 hq with e | e
      · exact e
      · exact absurd e (by simp [Kd.int, Kd.scalar])
    subst hq2
    exact hs k cells hc)) (fun _ _ => trivial)
theorem impl_cross.runs {P : Program} {W : World} {g j T : Nat} {cur : Array Value} (t : TypeId) (u : Value) (seg new : List Value) (hb : W.heap[g]? = some (.cells cur T (0, 0))) (hu : u.cells.toList = seg) (ht : (P.info? t).map (·.size) = some seg.length) (hj : j + seg.length ≤ cur.size) (h1 : ∀ q ∈ seg, q.oneCell' = true) (hn : new = cur.toList.take j ++ seg ++ cur.toList.drop (j + seg.length)) :
    ∃ w1, (Instr.storeAt t (.pointer (some ⟨g, j, none⟩)) u).run P W = .ok () w1 ∧ w1.heap[g]? = some (.cells new.toArray T (0, 0)) ∧ W.grownBy w1 (some g) := by
  refine ⟨W.setCells g j seg, run_store_run t u seg hb hu ht hj h1, ?_, ?_⟩
  · obtain ⟨cur', c1, c2, c3⟩ := setCells_row seg j W cur hb hj
    rw [c1, hn, ← c3]
  · obtain ⟨s1, s2, s3, s4⟩ := setCells_same g seg j W
    exact ⟨s1, s2, s3, by rw [s4]; exact Nat.le_refl _, fun k _ hk => setCells_far _ _ k (fun he => hk (by rw [he]))⟩
theorem impl_cross.store {P : Program} {ops : Array Oper} {rest : List Oper} {o : Oper} {a : Act} {Q : Exit → Act → World → Prop} {W : World} (hgd : o.guard = none) (hN : o.dst = none) {t : TypeId} {p : Tmp} {x : Operand} (ho : o.op = .store t (.tmp p) x) (g j T : Nat) (cur : Array Value) (u : Value) (seg new : List Value) (haddr : a.eval (.tmp p) = .pointer (some ⟨g, j, none⟩)) (hx : a.eval x = u) (hb : W.heap[g]? = some (.cells cur T (0, 0))) (hu : u.cells.toList = seg) (ht : (P.info? t).map (·.size) = some seg.length) (hj : j + seg.length ≤ cur.size) (h1 : ∀ q ∈ seg, q.oneCell' = true) (hn : new = cur.toList.take j ++ seg ++ cur.toList.drop (j + seg.length))
    (h : ∀ w1, w1.heap[g]? = some (.cells new.toArray T (0, 0)) → W.grownBy w1 (some g) → wpList P ops Q rest a w1) : wpList P ops Q (o :: rest) a W := by
  obtain ⟨w1, hrun, h2, h3⟩ := impl_cross.runs (P := P) t u seg new hb hu ht hj h1 hn
  refine wpList_plain hgd fun K hK => ?_
  unfold Oper.wp execOp
  simp only [ho, haddr, hx, Sem.run_bind, Sem.run_pure, Result.andThen_ok, hrun]
  show K (a.put o.dst undef) _
  rw [hN]
  exact hK _ _ (h w1 h2 h3)
theorem impl_cross.sorted (W : World) (x : List Int) (g : Nat) (hh : W.heap[g]? = some (.cells (nums .i64 x).toArray 3 (0, 0))) (hx : x.length ≤ 2) :
    Calls Try.prog 51 #[.slice (some ⟨g, 0, none⟩) x.length x.length] W fun e w' => e = .returned (.tuple #[]) ∧ W.grownBy w' (some g) ∧ w'.heap[g]? = some (.cells (nums .i64 (impl_cross.srt x)).toArray 3 (0, 0)) := by
  have hlt : g < W.heap.size := blk_lt hh
  have hH : Go.Sort.Holds (Value.int .i64) W g 0 x.toArray := by
    intro j hj
    have hj' : j < x.length := by simpa using hj
    refine ⟨?_, blk_frozen hh _⟩
    rw [cell_of_row W g _ (nums .i64 x).toArray 3 (0, 0) hh, Nat.zero_add]
    simp [nums, hj']
  refine Calls.mono (show Calls Try.prog 51 #[.slice (some ⟨g, 0, none⟩) x.length x.length] W _ from Any.slices_Sort_int impl_cross.lays g 0 x.length x W hH hlt (by omega)) ?_
  rintro e w' ⟨rfl, n, os, rfl⟩
  refine ⟨rfl, impl_pace.grown (Value.int .i64) W g n _ os, ?_⟩
  refine (impl_pace.heap (Value.int .i64) W g n (impl_cross.srt x).toArray os hh).trans ?_
  have ht := impl_pace.takes (Value.int .i64) (nums .i64 x).toArray (impl_cross.srt x) (by simp [nums, impl_cross.srt_length])
  have hsz : (Go.Sort.putCells (Value.int .i64) 0 (impl_cross.srt x).toArray (nums .i64 x).toArray).toList.length = (impl_cross.srt x).length := by simp [Go.Sort.putCells, nums, impl_cross.srt_length]
  rw [← hsz, List.take_length] at ht
  have he : Go.Sort.putCells (Value.int .i64) 0 (impl_cross.srt x).toArray (nums .i64 x).toArray = (nums .i64 (impl_cross.srt x)).toArray := by
    apply Array.ext'
    rw [ht]
    simp [nums]
  rw [he]
theorem impl_cross.field0 (a b c : Value) (w : World) : Sem.run Try.prog (Instr.field 42 (.agg #[a, b, c]) 0) w = .ok a w := by kernel_rfl
theorem impl_cross.field1 (a b c : Value) (w : World) : Sem.run Try.prog (Instr.field 42 (.agg #[a, b, c]) 1) w = .ok b w := by kernel_rfl
theorem impl_cross.field2 (a b c : Value) (w : World) : Sem.run Try.prog (Instr.field 42 (.agg #[a, b, c]) 2) w = .ok c w := by kernel_rfl
set_option maxHeartbeats 4000000 in
set_option maxRecDepth 100000 in
theorem impl_cross.trip {w W : World} {gb : Nat} {ls : List (List Int)} {s : ByteArray} {b : Bool} {tv : Value} (x : List Int) (hB : Below w.heap.size w W) (hge : w.heap.size ≤ gb) (hbx : W.heap[gb]? = some (.cells #[tv, .string s, .bool b] 42 (0, 0))) (hT : Kd.S (Kd.slice 3 (Kd.int .i64)) 22 W w.heap.size (fun _ => True) tv ls) (hx : 0 < x.length ∧ x.length ≤ 2) (hl : ls.length ≤ 4194304) :
    Calls Try.prog 50 #[.slice (some ⟨W.heap.size, 0, none⟩) x.length x.length, .pointer (some ⟨gb, 0, none⟩)] (W.alloc (.cells (nums .i64 x).toArray 3)) fun e w' => e = .returned (.tuple #[]) ∧ Below w.heap.size w w' ∧ ∃ tv' : Value, w'.heap[gb]? = some (.cells #[tv', .string s, .bool b] 42 (0, 0)) ∧ Kd.S (Kd.slice 3 (Kd.int .i64)) 22 w' w.heap.size (fun _ => True) tv' (ls ++ [impl_cross.srt x]) ∧ impl_cross.Stay W w' ∧ (∀ (g : Nat) (cs : Array Value), g ≠ gb → W.heap[g]? = some (.cells cs 42 (0, 0)) → w'.heap[g]? = some (.cells cs 42 (0, 0))) := by
  have hgbW : gb < W.heap.size := blk_lt hbx
  have hsort := impl_cross.sorted (W.alloc (.cells (nums .i64 x).toArray 3)) x W.heap.size (blk_new W _) hx.2
  obtain ⟨At, ct, et⟩ := Kd.S_slice hT
  subst et
  have HB := Aside0.mk hB
  have BX := Aside0.mk hbx
  have HT := Aside0.mk hT
  have GB := Aside0.mk hgbW
  have GE := Aside0.mk hge
  have HX := Aside0.mk hx
  have HL := Aside0.mk hl
  clear hB hbx hT hgbW hge hx hl
  have hlen : (impl_cross.srt x).length = x.length := impl_cross.srt_length x
  have HE := Aside0.mk hlen
  clear hlen
  go_enter Try.func50, Try.ntmps50
  go_wp2_with (first | (go_at_call 51; refine hsort.mono ?_; rintro e w2 ⟨rfl, hg, hh2⟩; clear hsort; have n0_ := Aside0.mk ((blk_grown (blk_alloc BX.out _) hg (by have h9 := GB.out; intro he; injection he with he; omega))); have n1_ := Aside0.mk (Kd.S_mono (ok' := fun k_ => True ∧ ¬ k_ = W.heap.size) (Kd.S_grown (Kd.S_alloc (Kd.S_bound HT.out) (.cells (nums .i64 x).toArray 3)) hg (fun k_ hk he => by injection he with he; have := hk.2.2.1; omega)) (fun k_ hk => ⟨trivial, fun e_ => by have := hk.2.2.1; omega⟩)); have n2_ := Aside0.mk (Below.grown (below_alloc HB.out (.cells (nums .i64 x).toArray 3)) hg (below_size (below_alloc HB.out _)) (fun k_ hk => by injection hk with hk; subst hk; exact below_size HB.out)); have n3_ : Aside0 (Kd.R (Kd.int .i64) 3 w2 w.heap.size (fun k_ => k_ = W.heap.size) (.slice (some ⟨W.heap.size, 0, none⟩) x.length x.length) (impl_cross.srt x)) := ⟨Kd.R_of_own (enc := Value.int .i64) (h1 := fun _ => rfl) ⟨by simp [encs], .inr ⟨W.heap.size, x.length, _, by rw [HE.out], below_size HB.out, hh2, by rw [HE.out]; exact Nat.le_refl _, by have := HX.out; simp only [maxLen]; omega, by simp [nums, HE.out], by simp [nums, encs, HE.out, List.take_of_length_le]⟩⟩ (fun k_ hk => by simpa [Value.ownBlock, eq_comm] using hk)⟩; have n4_ : Aside0 (impl_cross.Stay W w2) := ⟨fun k_ cells hc => (hg.block k_ (Nat.lt_of_lt_of_le (blk_lt hc) (below_alloc (Below.refl _ W) (.cells (nums .i64 x).toArray 3)).size) (fun he => by injection he with he; have := blk_lt hc; omega)).trans (Below.heap_alloc W _ k_ (blk_lt hc))⟩; have n5_ : Aside0 (∀ (g : Nat) (cs : Array Value), g ≠ gb → W.heap[g]? = some (.cells cs 42 (0, 0)) → w2.heap[g]? = some (.cells cs 42 (0, 0))) := ⟨fun g_ cs_ _ hc => blk_grown (blk_alloc hc _) hg (by have h9 := blk_lt hc; intro he; injection he with he; omega)⟩; have HG := n5_; clear n5_; clear hg hh2; have LT := Aside0.mk (Kd.S_lt HT.out); clear HB BX HT; have BX := n0_; have HT := n1_; have HB := n2_; have HP := n3_; have HS := n4_; clear n0_ n1_ n2_ n3_ n4_; have cz0 : w2.cell? ⟨gb, 0, none⟩ = some (.slice At ls.length ct) := (blk_cell BX.out 0).trans rfl) | ((with_reducible refine gate_builtin (b := .append) (xs := #[.tmp 6, .tmp 8]) rfl ?_); at_builtin; refine Kd.S_append (Kd.slice 3 (Kd.int .i64)) (w0 := w) w.heap.size rfl (.tmp 6) (.tmp 8) 40 22 (.slice none 0 0) 24 rfl Try.underlying40 info22 rfl (by decide) (by omega) (.slice At ls.length ct) ls (impl_cross.srt x) [.slice (some ⟨W.heap.size, 0, none⟩) x.length x.length] (fun _ => True) (fun k_ => k_ = W.heap.size) rfl rfl ?aP (fun k_ hk_ => ⟨trivial, fun e_ => by have h9 := LT.out k_ e_.symm; omega⟩) ?aF ?aO ?aB ?aS ?aL ?_; (case aP => exact ⟨_, rfl, HP.out⟩); (case aF => exact (fun _ _ => trivial)); (case aO => exact HT.out); (case aB => exact HB.out); (case aS => exact below_size HB.out); (case aL => have := HL.out; omega); intro v9 w3 ho hb hg hat; have n0_ := Aside0.mk (blk_grown BX.out hg (Kd.S_ne HT.out BX.out (by decide))); have n1_ := Aside0.mk ho; have n2_ := Aside0.mk hb; have n3_ : Aside0 (impl_cross.Stay W w3) := ⟨HS.out.trans (fun k_ cells hc => hg.block k_ (blk_lt hc) (fun he => by obtain ⟨c9, h9⟩ := Kd.S_typed HT.out k_ he.symm; rw [h9] at hc; injection hc with hc; injection hc with _ hc; exact absurd hc (by decide)))⟩; have n5_ : Aside0 (∀ (g : Nat) (cs : Array Value), g ≠ gb → W.heap[g]? = some (.cells cs 42 (0, 0)) → w3.heap[g]? = some (.cells cs 42 (0, 0))) := ⟨fun g_ cs_ hn_ hc => blk_grown (HG.out g_ cs_ hn_ hc) hg (Kd.S_ne HT.out (HG.out g_ cs_ hn_ hc) (by decide))⟩; clear ho hb hg hat HB BX HT HS HP LT HG; have HG := n5_; clear n5_; have BX := n0_; have HT := n1_; have HB := n2_; have HS := n3_; clear n0_ n1_ n2_ n3_) | ((with_reducible refine gate_store (t := 40) (p := 10) rfl ?_); refine impl_cross.store rfl rfl rfl gb 0 42 #[.slice At ls.length ct, .string s, .bool b] v9 [v9] [v9, .string s, .bool b] rfl rfl BX.out (Kd.R_val (Kd.S_R HT.out)).1 (by kernel_rfl) (by simp) (by intro q_ hq_; rw [List.mem_singleton.1 hq_]; exact (Kd.R_val (Kd.S_R HT.out)).2) rfl ?_; intro w4 hbx hg; have n0_ := Aside0.mk hbx; have n1_ := Aside0.mk (Kd.S_mono (ok' := fun _ => True) (Kd.S_grown (Kd.S_types HT.out BX.out (by decide)) hg (fun k_ hk he => by injection he with he; exact hk.2 he)) (fun _ _ => trivial)); have n2_ := Aside0.mk (Below.grown HB.out hg (below_size HB.out) (fun k_ hk => by injection hk with hk; subst hk; exact GE.out)); have n3_ := Aside0.mk (HS.out.trans (impl_cross.Stay.of_grown BX.out (by decide) hg)); have n5_ : Aside0 (∀ (g : Nat) (cs : Array Value), g ≠ gb → W.heap[g]? = some (.cells cs 42 (0, 0)) → w4.heap[g]? = some (.cells cs 42 (0, 0))) := ⟨fun g_ cs_ hn_ hc => blk_grown (HG.out g_ cs_ hn_ hc) hg (by intro he; injection he with he; exact hn_ he)⟩; clear hbx hg HB BX HT HS HG; have HG := n5_; clear n5_; have BX := n0_; have HT := n1_; have HB := n2_; have HS := n3_; clear n0_ n1_ n2_ n3_))
  go_end0
  exact ⟨rfl, HB.out, _, BX.out, HT.out, HS.out, HG.out⟩
def impl_cross.l0 (l o : List Int) (esc : Bool) : Nat → Int → List (List Int) → ByteArray → Bool → Option (List (List Int) × ByteArray × Bool)
  | 0, _, _, _, _ => none
  | k + 1, n, ls, s, ev =>
    if n > 3 then
      (if wrap64 (2 * rd l (rd o 1)) < wrap64 (rd l (rd o 0) + rd l (rd o (n - 2))) ∧ esc = false then
        impl_cross.l0 l o esc k (n - 2) (ls ++ [impl_cross.srt [rd o 0, rd o 1], impl_cross.srt [rd o 0], impl_cross.srt [rd o (n - 2), rd o (n - 1)], impl_cross.srt [rd o 1]]) (s ++ (⟨#[102]⟩ : ByteArray)) (ev || decide (wrap64 (2 * rd l (rd o 1)) = wrap64 (rd l (rd o 0) + rd l (rd o (n - 2)))))
      else
        impl_cross.l0 l o esc k (n - 2) (ls ++ [impl_cross.srt [rd o 0, rd o (n - 1)], impl_cross.srt [rd o 0], impl_cross.srt [rd o 0, rd o (n - 2)], impl_cross.srt [rd o 0]]) (s ++ (⟨#[101]⟩ : ByteArray)) (ev || decide (wrap64 (2 * rd l (rd o 1)) = wrap64 (rd l (rd o 0) + rd l (rd o (n - 2))))))
    else if n = 3 then some (ls ++ [impl_cross.srt [rd o 0, rd o 1], impl_cross.srt [rd o 0], impl_cross.srt [rd o 0, rd o 2]], s, ev)
    else if n = 2 then some (ls ++ [impl_cross.srt [rd o 0, rd o 1]], s, ev)
    else some (ls ++ [impl_cross.srt [rd o 0]], s, ev)
def impl_cross.f (k : Nat) (l0 : List Int) (a1 : Bool) : Option (List (List Int) × ByteArray × Bool) := if 0 < l0.length ∧ l0.length ≤ 1048576 then impl_cross.l0 l0 (impl_pace.paceL l0) a1 k (l0.length : Int) [] (⟨#[]⟩ : ByteArray) false else none
theorem impl_cross.pace_mem {l : List Int} {x : Int} (h : x ∈ impl_pace.paceL l) : 0 ≤ x ∧ x < (l.length : Int) := by
  unfold impl_pace.paceL at h
  obtain ⟨a, _, rfl⟩ := List.mem_map.1 h
  have := a.isLt
  omega
theorem impl_cross.rd_mem {o : List Int} {P : Int → Prop} (h : ∀ x ∈ o, P x) (i : Int) (h0 : 0 ≤ i) (h1 : i < (o.length : Int)) : P (rd o i) := by
  have hl : i.toNat < o.length := by omega
  have : rd o i = o[i.toNat] := by simp [rd, List.getD_eq_getElem?_getD, hl]
  rw [this]
  exact h _ (List.getElem_mem hl)
theorem impl_cross.cellO {W : World} {b go co : Nat} {o : List Int} (h : Kd.R (Kd.int .i64) 3 W b (fun _ => True) (.slice (some ⟨go, 0, none⟩) o.length co) o) (i : Int) (h0 : 0 ≤ i) (h1 : i < (o.length : Int)) : W.cell? ⟨go, i.toNat, none⟩ = some (.int .i64 (rd o i)) := (Kd.R_celln 0 h i h0 h1).1
theorem impl_cross.trip2 {w W : World} {gb : Nat} {ls : List (List Int)} {s : ByteArray} {b : Bool} {tv : Value} (p q : Int) (hB : Below w.heap.size w W) (hge : w.heap.size ≤ gb) (hbx : W.heap[gb]? = some (.cells #[tv, .string s, .bool b] 42 (0, 0))) (hT : Kd.S (Kd.slice 3 (Kd.int .i64)) 22 W w.heap.size (fun _ => True) tv ls) (hl : ls.length ≤ 4194304) :
    Calls Try.prog 50 #[.slice (some ⟨W.heap.size, 0, none⟩) 2 2, .pointer (some ⟨gb, 0, none⟩)] (W.alloc (.cells #[.int .i64 p, .int .i64 q] 3)) fun e w' => e = .returned (.tuple #[]) ∧ Below w.heap.size w w' ∧ ∃ tv' : Value, w'.heap[gb]? = some (.cells #[tv', .string s, .bool b] 42 (0, 0)) ∧ Kd.S (Kd.slice 3 (Kd.int .i64)) 22 w' w.heap.size (fun _ => True) tv' (ls ++ [impl_cross.srt [p, q]]) ∧ impl_cross.Stay W w' ∧ (∀ (g : Nat) (cs : Array Value), g ≠ gb → W.heap[g]? = some (.cells cs 42 (0, 0)) → w'.heap[g]? = some (.cells cs 42 (0, 0))) :=
  impl_cross.trip [p, q] hB hge hbx hT (by simp) hl
theorem impl_cross.trip1 {w W : World} {gb : Nat} {ls : List (List Int)} {s : ByteArray} {b : Bool} {tv : Value} (p : Int) (hB : Below w.heap.size w W) (hge : w.heap.size ≤ gb) (hbx : W.heap[gb]? = some (.cells #[tv, .string s, .bool b] 42 (0, 0))) (hT : Kd.S (Kd.slice 3 (Kd.int .i64)) 22 W w.heap.size (fun _ => True) tv ls) (hl : ls.length ≤ 4194304) :
    Calls Try.prog 50 #[.slice (some ⟨W.heap.size, 0, none⟩) 1 1, .pointer (some ⟨gb, 0, none⟩)] (W.alloc (.cells #[.int .i64 p] 3)) fun e w' => e = .returned (.tuple #[]) ∧ Below w.heap.size w w' ∧ ∃ tv' : Value, w'.heap[gb]? = some (.cells #[tv', .string s, .bool b] 42 (0, 0)) ∧ Kd.S (Kd.slice 3 (Kd.int .i64)) 22 w' w.heap.size (fun _ => True) tv' (ls ++ [impl_cross.srt [p]]) ∧ impl_cross.Stay W w' ∧ (∀ (g : Nat) (cs : Array Value), g ≠ gb → W.heap[g]? = some (.cells cs 42 (0, 0)) → w'.heap[g]? = some (.cells cs 42 (0, 0))) :=
  impl_cross.trip [p] hB hge hbx hT (by simp) hl
set_option maxHeartbeats 16000000 in
set_option maxRecDepth 100000 in
theorem impl_cross.calls (k : Nat) (A0 : Option Addr) (c0 : Nat) (l0 : List Int) (a1 : Bool) (r1 : List (List Int)) (r2 : ByteArray) (r3 : Bool) (w : World) (hr0 : Kd.C (Kd.int .i64) w A0 l0.length l0) (hc0 : l0.length ≤ c0) (h : impl_cross.f k l0 a1 = some (r1, r2, r3)) :
    Calls Try.prog 26 #[.slice A0 l0.length c0, .bool a1] w fun e w' => ∃ v0_ : Value, e = .returned (.agg #[v0_, .string r2, .bool r3]) ∧ Kd.S (Kd.slice 3 (Kd.int .i64)) 22 w' w.heap.size (fun _ => True) v0_ r1 ∧ Below w.heap.size w w' := by
  unfold impl_cross.f at h
  by_cases hl : 0 < l0.length ∧ l0.length ≤ 1048576
  rotate_left
  · rw [if_neg hl] at h; cases h
  rw [if_pos hl] at h
  obtain ⟨hl0, hl1⟩ := hl
  have hpace : impl_pace.f l0 = some (impl_pace.paceL l0) := by unfold impl_pace.f; rw [if_pos ⟨hl0, hl1⟩]
  obtain ⟨o, ho⟩ : ∃ o, o = impl_pace.paceL l0 := ⟨_, rfl⟩
  have hol : o.length = l0.length := by rw [ho]; simp [impl_pace.paceL]
  have hom : ∀ x ∈ o, 0 ≤ x ∧ x < (l0.length : Int) := by rw [ho]; exact fun x hx => impl_cross.pace_mem hx
  rw [← ho] at h hpace
  clear ho
  obtain ⟨ad, e_, hx_⟩ := Kd.at_int hr0 0 (by omega) (by omega)
  cases e_
  clear hx_
  have HOL := Aside0.mk hol
  have HOM := Aside0.mk hom
  have H' := Aside0.mk h
  have HP := Aside0.mk hpace
  have HR0 := Aside0.mk hr0
  have HC0 := Aside0.mk hc0
  have HL0 := Aside0.mk (And.intro hl0 hl1)
  clear h hpace hr0 hc0 hol hom hl0 hl1
  have eg : ∀ args w, (callFunc 50 args).run Try.prog w = .ok (.enter 50 args) w := enters_of Try.func50 (by kernel_rfl) rfl
  have hu := Try.underlying42
  have HB := Aside0.mk (Below.refl w.heap.size w)
  go_enter Try.func26, Try.ntmps26
  go_wp2_with (first | ((with_reducible refine gate_dst (N := 4) rfl ?_); refine box_event ?hg (N := 4) ?hd (cs := #[.slice none 0 0, .string ⟨#[]⟩, .bool false]) (t := 42) ?hr ?_; (case hd => rfl); (case hg => rfl); (case hr => first | (go_simp; done) | (go_simp; rfl)); intro gr hg wgr hbox hb; have GR := Aside0.mk (by rw [hg]; exact (below_size HB.out) : w.heap.size ≤ gr); replace HB := Aside0.mk (below_step HB.out hb); have BR := Aside0.mk hbox; clear hg hbox hb) | ((with_reducible refine gate_dst (N := 16) rfl ?_); refine goesL_ (some 16) rfl rfl Try.func23 (by kernel_rfl) rfl #[.slice (some ad) l0.length c0] rfl (by (try simp only [List.map_toArray, List.map_cons, List.map_nil]); first | done | rfl) ?_; refine (impl_pace.calls (some ad) c0 l0 o _ (Kd.C_below HR0.out HB.out) HC0.out HP.out).mono ?_; rintro e w2 ⟨v16, rfl, ho0, hb⟩; refine ⟨_, rfl, ?_⟩; obtain ⟨go, co, eo, h1_, h2_, h3_⟩ := Kd.R_form ho0 (by have h8 := HOL.out; have h9 := HL0.out; omega); subst eo; have HO := Aside0.mk (Kd.R_lower ho0 (below_size HB.out)); replace BR := Aside0.mk (blk_below BR.out hb); replace HB := Aside0.mk (below_step HB.out hb); clear ho0 hb h1_ h2_ h3_) | ((with_reducible refine gate_dst (N := 6) rfl ?_); refine box_event ?hg (N := 6) ?hd (cs := #[.slice none 0 0, .string ⟨#[]⟩, .bool false]) (t := 42) ?hr ?_; (case hd => rfl); (case hg => rfl); (case hr => first | (go_simp; done) | (go_simp; rfl)); intro gb hg wgb hbox hb; have GE := Aside0.mk (by rw [hg]; exact (below_size HB.out) : w.heap.size ≤ gb); have GN := Aside0.mk (show gr ≠ gb from (by have h9 := blk_lt BR.out; omega)); replace HO := Aside0.mk (Kd.R_below HO.out hb); replace BR := Aside0.mk (blk_below BR.out hb); replace HB := Aside0.mk (below_step HB.out hb); have BX := Aside0.mk hbox; have HT := Aside0.mk (Kd.S_nil (Kd.slice 3 (Kd.int .i64)) 22 wgb w.heap.size (fun _ => True)); clear hg hbox hb) | ((with_reducible refine gate_store (t := 42) (p := 6) rfl ?_); refine impl_cross.store rfl rfl rfl gb 0 42 #[.slice none 0 0, .string ⟨#[]⟩, .bool false] (.agg #[.slice none 0 0, .string ⟨#[]⟩, .bool false]) [.slice none 0 0, .string ⟨#[]⟩, .bool false] [.slice none 0 0, .string ⟨#[]⟩, .bool false] rfl rfl BX.out rfl (by kernel_rfl) (by simp) (by intro q_ hq_; simp only [List.mem_cons, List.not_mem_nil, or_false] at hq_; rcases hq_ with rfl | rfl | rfl <;> rfl) rfl ?_; intro ws hbx_ hg_; replace HO := Aside0.mk (impl_cross.keepR HO.out (impl_cross.Stay.of_grown BX.out (by decide) hg_)); replace HT := Aside0.mk (Kd.S_mono (ok' := fun _ => True) (Kd.S_grown (Kd.S_types HT.out BX.out (by decide)) hg_ (fun k_ hk he => by injection he with he; exact hk.2 he)) (fun _ _ => trivial)); replace BR := Aside0.mk (blk_grown BR.out hg_ (by intro he; injection he with he; exact GN.out he)); replace HB := Aside0.mk (Below.grown HB.out hg_ (below_size HB.out) (fun k_ hk => by injection hk with hk; subst hk; exact GE.out)); replace BX := Aside0.mk hbx_; clear hbx_ hg_))
  go_loopg [8] k (fun gg v8 wr => ∃ (n : Nat) (ls : List (List Int)) (s : ByteArray) (b : Bool) (tv : Value), v8 = .int .i64 (n : Int) ∧ Aside0 (impl_cross.l0 l0 o a1 gg (n : Int) ls s b = some (r1, r2, r3)) ∧ Aside0 (gg ≤ k) ∧ Aside0 (n ≤ l0.length ∧ 0 < n ∧ ls.length + 2 * n ≤ 2 * l0.length ∧ s.size ≤ ls.length) ∧ Aside0 (Below w.heap.size w wr) ∧ Aside0 (wr.heap[gr]? = some (.cells #[.slice none 0 0, .string ⟨#[]⟩, .bool false] 42 (0, 0))) ∧ Aside0 (wr.heap[gb]? = some (.cells #[tv, .string s, .bool b] 42 (0, 0))) ∧ Aside0 (Kd.S (Kd.slice 3 (Kd.int .i64)) 22 wr w.heap.size (fun _ => True) tv ls) ∧ Aside0 (Kd.R (Kd.int .i64) 3 wr w.heap.size (fun _ => True) (.slice (some ⟨go, 0, none⟩) o.length co) o))
  case atStart => exact ⟨l0.length, [], ⟨#[]⟩, false, .slice none 0 0, by first | rfl | (simp [HOL.out]; done), H', ⟨Nat.le_refl _⟩, ⟨by have h9 := HL0.out; exact ⟨Nat.le_refl _, h9.1, by simp, Nat.le_refl _⟩⟩, HB, BR, BX, HT, HO⟩
  case round =>
    clear H' HB BR BX HT HO
    obtain ⟨n, ls, s, b, tv, rfl, HA, HK1, HN, HB, BR, BX, HT, HO⟩ := hrel
    cases gk with
    | zero => exact absurd HA.out (by simp [impl_cross.l0])
    | succ k1 =>
      have H := HA.out
      clear HA
      simp only [impl_cross.l0] at H
      have hn := HN.out
      have hl0 := HL0.out
      have hol := HOL.out
      have hom := HOM.out
      have HL := Aside0.mk (show ls.length + 4 ≤ 4194304 by omega)
      obtain ⟨a, ha⟩ : ∃ a, a = rd o 0 := ⟨_, rfl⟩
      have hx0 : wr.cell? ⟨go, 0, none⟩ = some (.int .i64 a) := by rw [ha]; exact impl_cross.cellO HO.out 0 (by omega) (by omega)
      have ha0 : 0 ≤ a ∧ a < (l0.length : Int) := by rw [ha]; exact impl_cross.rd_mem hom 0 (by omega) (by omega)
      rw [← ha] at H
      have HA0 := Aside0.mk ha
      clear ha
      have n0 : (0 < o.length) = True := eq_true (by omega)
      have n0' : ((0 : Int) < (o.length : Int)) = True := eq_true (by omega)
      by_cases c3 : (n : Int) > 3
      · rw [if_pos c3] at H
        have c3b : decide (3 < (n : Int)) = true := decide_eq_true c3
        obtain ⟨bb, hb⟩ : ∃ a, a = rd o 1 := ⟨_, rfl⟩
        obtain ⟨y, hy⟩ : ∃ a, a = rd o ((n : Int) - 2) := ⟨_, rfl⟩
        obtain ⟨z, hz⟩ : ∃ a, a = rd o ((n : Int) - 1) := ⟨_, rfl⟩
        have hw2 : wrap64 ((n : Int) - 2) = (n : Int) - 2 := by unfold wrap64; omega
        have hw1 : wrap64 ((n : Int) - 1) = (n : Int) - 1 := by unfold wrap64; omega
        have hx1 : wr.cell? ⟨go, 1, none⟩ = some (.int .i64 bb) := by rw [hb]; exact impl_cross.cellO HO.out 1 (by omega) (by omega)
        have hx2 : wr.cell? ⟨go, (wrap64 ((n : Int) - 2)).toNat, none⟩ = some (.int .i64 y) := by rw [hy, hw2]; exact impl_cross.cellO HO.out ((n : Int) - 2) (by omega) (by omega)
        have hx3 : wr.cell? ⟨go, (wrap64 ((n : Int) - 1)).toNat, none⟩ = some (.int .i64 z) := by rw [hz, hw1]; exact impl_cross.cellO HO.out ((n : Int) - 1) (by omega) (by omega)
        have hb0 : 0 ≤ bb ∧ bb < (l0.length : Int) := by rw [hb]; exact impl_cross.rd_mem hom 1 (by omega) (by omega)
        have hy0 : 0 ≤ y ∧ y < (l0.length : Int) := by rw [hy]; exact impl_cross.rd_mem hom _ (by omega) (by omega)
        rw [← hb, ← hy, ← hz] at H
        clear hb hy hz
        have CT1 : ∀ W : World, Below w.heap.size w W → W.cell? (ad.add bb.toNat) = some (.int .i64 (rd l0 bb)) := fun W hW => by
          obtain ⟨_, e1, ht1⟩ := Kd.at_int (Kd.C_below HR0.out hW) bb hb0.1 hb0.2
          cases e1
          exact ht1
        have CT2 : ∀ W : World, Below w.heap.size w W → W.cell? (ad.add a.toNat) = some (.int .i64 (rd l0 a)) := fun W hW => by
          obtain ⟨_, e1, ht1⟩ := Kd.at_int (Kd.C_below HR0.out hW) a ha0.1 ha0.2
          cases e1
          exact ht1
        have CT3 : ∀ W : World, Below w.heap.size w W → W.cell? (ad.add y.toNat) = some (.int .i64 (rd l0 y)) := fun W hW => by
          obtain ⟨_, e1, ht1⟩ := Kd.at_int (Kd.C_below HR0.out hW) y hy0.1 hy0.2
          cases e1
          exact ht1
        generalize rd l0 bb = tb at CT1 H
        generalize rd l0 a = ta at CT2 H
        generalize rd l0 y = ty at CT3 H
        have n1 : (1 < o.length) = True := eq_true (by omega)
        have n1' : ((1 : Int) < (o.length : Int)) = True := eq_true (by omega)
        have n2 : (0 ≤ wrap64 ((n : Int) - 2)) = True := eq_true (by omega)
        have n3 : (wrap64 ((n : Int) - 2) < (o.length : Int)) = True := eq_true (by omega)
        have n4 : (0 ≤ wrap64 ((n : Int) - 1)) = True := eq_true (by omega)
        have n5 : (wrap64 ((n : Int) - 1) < (o.length : Int)) = True := eq_true (by omega)
        have n6 : (0 ≤ bb) = True := eq_true hb0.1
        have n7 : (bb < (l0.length : Int)) = True := eq_true hb0.2
        have n8 : (0 ≤ a) = True := eq_true ha0.1
        have n9 : (a < (l0.length : Int)) = True := eq_true ha0.2
        have n10 : (0 ≤ y) = True := eq_true hy0.1
        have n11 : (y < (l0.length : Int)) = True := eq_true hy0.2
        have HNN := Aside0.mk (show wrap64 ((n : Int) - 2) = ((n - 2 : Nat) : Int) by rw [hw2]; omega)
        have HNM := Aside0.mk (show (n : Int) - 2 = ((n - 2 : Nat) : Int) by omega)
        have hs1 : decide (s.size + 1 ≤ 9223372036854775807) = true := decide_eq_true (by omega)
        have hs2 : (9223372036854775807 < s.size + 1) = False := eq_false (by omega)
        clear hw1 hw2 ha0 hb0 hy0 hn hl0 hol hom
        have HH := Aside0.mk H
        clear H
        have HT1 : Aside0 (∀ W : World, Below w.heap.size w W → W.cell? (ad.add bb.toNat) = some (.int .i64 tb)) := ⟨fun W hW => CT1 W hW⟩
        have HT2 : Aside0 (∀ W : World, Below w.heap.size w W → W.cell? (ad.add a.toNat) = some (.int .i64 ta)) := ⟨fun W hW => CT2 W hW⟩
        have HT3 : Aside0 (∀ W : World, Below w.heap.size w W → W.cell? (ad.add y.toNat) = some (.int .i64 ty)) := ⟨fun W hW => CT3 W hW⟩
        clear CT1 CT2 CT3
        go_wp2
        have hd_ : Below wr.heap.size wr wr.drew := below_drew (Below.refl _ _)
        replace BR := Aside0.mk (blk_below BR.out hd_)
        replace BX := Aside0.mk (blk_below BX.out hd_)
        replace HT := Aside0.mk (Kd.S_below HT.out hd_)
        replace HO := Aside0.mk (Kd.R_below HO.out hd_)
        replace HB := Aside0.mk (below_step HB.out hd_)
        clear hd_
        refine start_ (n := 20) (S := fun w' => w'.cell? ⟨go, 0, none⟩ = some (.int .i64 a) ∧ w'.cell? ⟨go, 1, none⟩ = some (.int .i64 bb) ∧ w'.cell? ⟨go, (wrap64 ((n : Int) - 2)).toNat, none⟩ = some (.int .i64 y) ∧ w'.cell? ⟨go, (wrap64 ((n : Int) - 1)).toNat, none⟩ = some (.int .i64 z)) (ds := []) #[false, false, false, false, false, false, false, false, false, false, false, false, false, false, false, false, false, false, false, false] (by kernel_rfl) rfl rfl ⟨hx0, hx1, hx2, hx3⟩ (fun hHeld => ?_)
        refine pure_ (i := 0) (N := some 25) (v := ?_) (a' := ?_) #[true, false, false, false, false, false, false, false, false, false, false, false, false, false, false, false, false, false, false, false] rfl rfl (by kernel_rfl) (fun _ _ _ h => h) (Or.inl ⟨by rfl, ?_⟩) ?_ ?_
        rotate_left
        · intro w'
          go_simp
          with_reducible rfl
        rotate_left
        · simp only [Act.put, List.setIfInBounds_toArray, List.set_cons_zero, List.set_cons_succ, i64_w, i32_w]
          rfl
        refine pure_ (i := 1) (N := some 26) (v := ?_) (a' := ?_) #[true, true, false, false, false, false, false, false, false, false, false, false, false, false, false, false, false, false, false, false] rfl rfl (by kernel_rfl) (fun _ _ _ h => h) (Or.inl ⟨by rfl, ?_⟩) ?_ ?_
        rotate_left
        · intro w'
          go_simp
          with_reducible rfl
        rotate_left
        · simp only [Act.put, List.setIfInBounds_toArray, List.set_cons_zero, List.set_cons_succ, i64_w, i32_w]
          rfl
        refine take_ (i := 2) (N := some 27) (v := ?_) (a' := ?_) #[true, true, true, false, false, false, false, false, false, false, false, false, false, false, false, false, false, false, false, false] rfl rfl (by kernel_rfl) (fun _ _ _ h => h) (Or.inl ⟨by rfl, ?_⟩) hHeld ?_ ?_
        rotate_left
        · rintro w' ⟨s0, s1, s2, s3⟩
          go_simp
          with_reducible rfl
        rotate_left
        · simp only [Act.put, List.setIfInBounds_toArray, List.set_cons_zero, List.set_cons_succ, i64_w, i32_w]
          rfl
        refine pure_ (i := 3) (N := some 28) (v := ?_) (a' := ?_) #[true, true, true, true, false, false, false, false, false, false, false, false, false, false, false, false, false, false, false, false] rfl rfl (by kernel_rfl) (fun _ _ _ h => h) (Or.inl ⟨by rfl, ?_⟩) ?_ ?_
        rotate_left
        · intro w'
          go_simp
          with_reducible rfl
        rotate_left
        · simp only [Act.put, List.setIfInBounds_toArray, List.set_cons_zero, List.set_cons_succ, i64_w, i32_w]
          rfl
        refine pure_ (i := 4) (N := some 29) (v := ?_) (a' := ?_) #[true, true, true, true, true, false, false, false, false, false, false, false, false, false, false, false, false, false, false, false] rfl rfl (by kernel_rfl) (fun _ _ _ h => h) (Or.inl ⟨by rfl, ?_⟩) ?_ ?_
        rotate_left
        · intro w'
          go_simp
          with_reducible rfl
        rotate_left
        · simp only [Act.put, List.setIfInBounds_toArray, List.set_cons_zero, List.set_cons_succ, i64_w, i32_w]
          rfl
        refine take_ (i := 5) (N := some 30) (v := ?_) (a' := ?_) #[true, true, true, true, true, true, false, false, false, false, false, false, false, false, false, false, false, false, false, false] rfl rfl (by kernel_rfl) (fun _ _ _ h => h) (Or.inl ⟨by rfl, ?_⟩) hHeld ?_ ?_
        rotate_left
        · rintro w' ⟨s0, s1, s2, s3⟩
          go_simp
          with_reducible rfl
        rotate_left
        · simp only [Act.put, List.setIfInBounds_toArray, List.set_cons_zero, List.set_cons_succ, i64_w, i32_w]
          rfl
        refine pure_ (i := 6) (N := some 31) (v := ?_) (a' := ?_) #[true, true, true, true, true, true, true, false, false, false, false, false, false, false, false, false, false, false, false, false] rfl rfl (by kernel_rfl) (fun _ _ _ h => h) (Or.inl ⟨by rfl, ?_⟩) ?_ ?_
        rotate_left
        · intro w'
          go_simp
          with_reducible rfl
        rotate_left
        · simp only [Act.put, List.setIfInBounds_toArray, List.set_cons_zero, List.set_cons_succ, i64_w, i32_w]
          rfl
        refine pure_ (i := 7) (N := some 32) (v := ?_) (a' := ?_) #[true, true, true, true, true, true, true, true, false, false, false, false, false, false, false, false, false, false, false, false] rfl rfl (by kernel_rfl) (fun _ _ _ h => h) (Or.inl ⟨by rfl, ?_⟩) ?_ ?_
        rotate_left
        · intro w'
          go_simp
          with_reducible rfl
        rotate_left
        · simp only [Act.put, List.setIfInBounds_toArray, List.set_cons_zero, List.set_cons_succ, i64_w, i32_w]
          rfl
        refine pure_ (i := 8) (N := some 33) (v := ?_) (a' := ?_) #[true, true, true, true, true, true, true, true, true, false, false, false, false, false, false, false, false, false, false, false] rfl rfl (by kernel_rfl) (fun _ _ _ h => h) (Or.inl ⟨by rfl, ?_⟩) ?_ ?_
        rotate_left
        · intro w'
          go_simp
          with_reducible rfl
        rotate_left
        · simp only [Act.put, List.setIfInBounds_toArray, List.set_cons_zero, List.set_cons_succ, i64_w, i32_w]
          rfl
        refine pure_ (i := 9) (N := some 34) (v := ?_) (a' := ?_) #[true, true, true, true, true, true, true, true, true, true, false, false, false, false, false, false, false, false, false, false] rfl rfl (by kernel_rfl) (fun _ _ _ h => h) (Or.inl ⟨by rfl, ?_⟩) ?_ ?_
        rotate_left
        · intro w'
          go_simp
          with_reducible rfl
        rotate_left
        · simp only [Act.put, List.setIfInBounds_toArray, List.set_cons_zero, List.set_cons_succ, i64_w, i32_w]
          rfl
        refine take_ (i := 10) (N := some 35) (v := ?_) (a' := ?_) #[true, true, true, true, true, true, true, true, true, true, true, false, false, false, false, false, false, false, false, false] rfl rfl (by kernel_rfl) (fun _ _ _ h => h) (Or.inl ⟨by rfl, ?_⟩) hHeld ?_ ?_
        rotate_left
        · rintro w' ⟨s0, s1, s2, s3⟩
          go_simp
          with_reducible rfl
        rotate_left
        · simp only [Act.put, List.setIfInBounds_toArray, List.set_cons_zero, List.set_cons_succ, i64_w, i32_w]
          rfl
        refine pure_ (i := 11) (N := some 36) (v := ?_) (a' := ?_) #[true, true, true, true, true, true, true, true, true, true, true, true, false, false, false, false, false, false, false, false] rfl rfl (by kernel_rfl) (fun _ _ _ h => h) (Or.inl ⟨by rfl, ?_⟩) ?_ ?_
        rotate_left
        · intro w'
          go_simp
          with_reducible rfl
        rotate_left
        · simp only [Act.put, List.setIfInBounds_toArray, List.set_cons_zero, List.set_cons_succ, i64_w, i32_w]
          rfl
        refine pure_ (i := 12) (N := some 37) (v := ?_) (a' := ?_) #[true, true, true, true, true, true, true, true, true, true, true, true, true, false, false, false, false, false, false, false] rfl rfl (by kernel_rfl) (fun _ _ _ h => h) (Or.inl ⟨by rfl, ?_⟩) ?_ ?_
        rotate_left
        · intro w'
          go_simp
          with_reducible rfl
        rotate_left
        · simp only [Act.put, List.setIfInBounds_toArray, List.set_cons_zero, List.set_cons_succ, i64_w, i32_w]
          rfl
        refine pure_ (i := 13) (N := some 38) (v := ?_) (a' := ?_) #[true, true, true, true, true, true, true, true, true, true, true, true, true, true, false, false, false, false, false, false] rfl rfl (by kernel_rfl) (fun _ _ _ h => h) (Or.inl ⟨by rfl, ?_⟩) ?_ ?_
        rotate_left
        · intro w'
          go_simp
          with_reducible rfl
        rotate_left
        · simp only [Act.put, List.setIfInBounds_toArray, List.set_cons_zero, List.set_cons_succ, i64_w, i32_w]
          rfl
        refine pure_ (i := 14) (N := some 39) (v := ?_) (a' := ?_) #[true, true, true, true, true, true, true, true, true, true, true, true, true, true, true, false, false, false, false, false] rfl rfl (by kernel_rfl) (fun _ _ _ h => h) (Or.inl ⟨by rfl, ?_⟩) ?_ ?_
        rotate_left
        · intro w'
          go_simp
          with_reducible rfl
        rotate_left
        · simp only [Act.put, List.setIfInBounds_toArray, List.set_cons_zero, List.set_cons_succ, i64_w, i32_w]
          rfl
        refine take_ (i := 15) (N := some 40) (v := ?_) (a' := ?_) #[true, true, true, true, true, true, true, true, true, true, true, true, true, true, true, true, false, false, false, false] rfl rfl (by kernel_rfl) (fun _ _ _ h => h) (Or.inl ⟨by rfl, ?_⟩) hHeld ?_ ?_
        rotate_left
        · rintro w' ⟨s0, s1, s2, s3⟩
          go_simp
          with_reducible rfl
        rotate_left
        · simp only [Act.put, List.setIfInBounds_toArray, List.set_cons_zero, List.set_cons_succ, i64_w, i32_w]
          rfl
        refine pure_ (i := 16) (N := some 9) (v := ?_) (a' := ?_) #[true, true, true, true, true, true, true, true, true, true, true, true, true, true, true, true, true, false, false, false] rfl rfl (by kernel_rfl) (fun _ _ _ h => h) (Or.inl ⟨by rfl, ?_⟩) ?_ ?_
        rotate_left
        · intro w'
          go_simp
          with_reducible rfl
        rotate_left
        · simp only [Act.put, List.setIfInBounds_toArray, List.set_cons_zero, List.set_cons_succ, i64_w, i32_w]
          rfl
        refine pure_ (i := 17) (N := some 10) (v := ?_) (a' := ?_) #[true, true, true, true, true, true, true, true, true, true, true, true, true, true, true, true, true, true, false, false] rfl rfl (by kernel_rfl) (fun _ _ _ h => h) (Or.inl ⟨by rfl, ?_⟩) ?_ ?_
        rotate_left
        · intro w'
          go_simp
          with_reducible rfl
        rotate_left
        · simp only [Act.put, List.setIfInBounds_toArray, List.set_cons_zero, List.set_cons_succ, i64_w, i32_w]
          rfl
        refine pure_ (i := 18) (N := some 11) (v := ?_) (a' := ?_) #[true, true, true, true, true, true, true, true, true, true, true, true, true, true, true, true, true, true, true, false] rfl rfl (by kernel_rfl) (fun _ _ _ h => h) (Or.inl ⟨by rfl, ?_⟩) ?_ ?_
        rotate_left
        · intro w'
          go_simp
          with_reducible rfl
        rotate_left
        · simp only [Act.put, List.setIfInBounds_toArray, List.set_cons_zero, List.set_cons_succ, i64_w, i32_w]
          rfl
        refine pure_ (i := 19) (N := some 12) (v := ?_) (a' := ?_) #[true, true, true, true, true, true, true, true, true, true, true, true, true, true, true, true, true, true, true, true] rfl rfl (by kernel_rfl) (fun _ _ _ h => h) (Or.inl ⟨by rfl, ?_⟩) ?_ ?_
        rotate_left
        · intro w'
          go_simp
          with_reducible rfl
        rotate_left
        · simp only [Act.put, List.setIfInBounds_toArray, List.set_cons_zero, List.set_cons_succ, i64_w, i32_w]
          rfl
        refine done_ (by kernel_rfl) ?_
        generalize wr.drew = wd at HB BR BX HT HO hHeld ⊢
        clear hHeld
        go_wp2
        have ht1' : wd.cell? (ad.add bb.toNat) = some (.int .i64 tb) := HT1.out wd HB.out
        have ht2' : wd.cell? (ad.add a.toNat) = some (.int .i64 ta) := HT2.out wd HB.out
        have ht3' : wd.cell? (ad.add y.toNat) = some (.int .i64 ty) := HT3.out wd HB.out
        clear hx0 hx1 hx2 hx3
        have hd_ : Below wd.heap.size wd wd.drew := below_drew (Below.refl _ _)
        replace BR := Aside0.mk (blk_below BR.out hd_)
        replace BX := Aside0.mk (blk_below BX.out hd_)
        replace HT := Aside0.mk (Kd.S_below HT.out hd_)
        replace HO := Aside0.mk (Kd.R_below HO.out hd_)
        replace HB := Aside0.mk (below_step HB.out hd_)
        clear hd_
        refine start_ (n := 16) (S := fun w' => w'.cell? (ad.add bb.toNat) = some (.int .i64 tb) ∧ w'.cell? (ad.add a.toNat) = some (.int .i64 ta) ∧ w'.cell? (ad.add y.toNat) = some (.int .i64 ty)) (ds := []) #[false, false, false, false, false, false, false, false, false, false, false, false, false, false, false, false] (by kernel_rfl) rfl rfl ⟨ht1', ht2', ht3'⟩ (fun hHeld => ?_)
        refine pure_ (i := 0) (N := some 41) (v := ?_) (a' := ?_) #[true, false, false, false, false, false, false, false, false, false, false, false, false, false, false, false] rfl rfl (by kernel_rfl) (fun _ _ _ h => h) (Or.inl ⟨by rfl, ?_⟩) ?_ ?_
        rotate_left
        · intro w'
          go_simp
          with_reducible rfl
        rotate_left
        · simp only [Act.put, List.setIfInBounds_toArray, List.set_cons_zero, List.set_cons_succ, i64_w, i32_w]
          rfl
        refine pure_ (i := 1) (N := some 42) (v := ?_) (a' := ?_) #[true, true, false, false, false, false, false, false, false, false, false, false, false, false, false, false] rfl rfl (by kernel_rfl) (fun _ _ _ h => h) (Or.inl ⟨by rfl, ?_⟩) ?_ ?_
        rotate_left
        · intro w'
          go_simp
          with_reducible rfl
        rotate_left
        · simp only [Act.put, List.setIfInBounds_toArray, List.set_cons_zero, List.set_cons_succ, i64_w, i32_w]
          rfl
        refine pure_ (i := 2) (N := some 43) (v := ?_) (a' := ?_) #[true, true, true, false, false, false, false, false, false, false, false, false, false, false, false, false] rfl rfl (by kernel_rfl) (fun _ _ _ h => h) (Or.inl ⟨by rfl, ?_⟩) ?_ ?_
        rotate_left
        · intro w'
          go_simp
          with_reducible rfl
        rotate_left
        · simp only [Act.put, List.setIfInBounds_toArray, List.set_cons_zero, List.set_cons_succ, i64_w, i32_w]
          rfl
        refine take_ (i := 3) (N := some 44) (v := ?_) (a' := ?_) #[true, true, true, true, false, false, false, false, false, false, false, false, false, false, false, false] rfl rfl (by kernel_rfl) (fun _ _ _ h => h) (Or.inl ⟨by rfl, ?_⟩) hHeld ?_ ?_
        rotate_left
        · rintro w' ⟨s0, s1, s2⟩
          go_simp
          with_reducible rfl
        rotate_left
        · simp only [Act.put, List.setIfInBounds_toArray, List.set_cons_zero, List.set_cons_succ, i64_w, i32_w]
          rfl
        refine pure_ (i := 4) (N := some 45) (v := ?_) (a' := ?_) #[true, true, true, true, true, false, false, false, false, false, false, false, false, false, false, false] rfl rfl (by kernel_rfl) (fun _ _ _ h => h) (Or.inl ⟨by rfl, ?_⟩) ?_ ?_
        rotate_left
        · intro w'
          go_simp
          with_reducible rfl
        rotate_left
        · simp only [Act.put, List.setIfInBounds_toArray, List.set_cons_zero, List.set_cons_succ, i64_w, i32_w]
          rfl
        refine pure_ (i := 5) (N := some 46) (v := ?_) (a' := ?_) #[true, true, true, true, true, true, false, false, false, false, false, false, false, false, false, false] rfl rfl (by kernel_rfl) (fun _ _ _ h => h) (Or.inl ⟨by rfl, ?_⟩) ?_ ?_
        rotate_left
        · intro w'
          go_simp
          with_reducible rfl
        rotate_left
        · simp only [Act.put, List.setIfInBounds_toArray, List.set_cons_zero, List.set_cons_succ, i64_w, i32_w]
          rfl
        refine pure_ (i := 6) (N := some 47) (v := ?_) (a' := ?_) #[true, true, true, true, true, true, true, false, false, false, false, false, false, false, false, false] rfl rfl (by kernel_rfl) (fun _ _ _ h => h) (Or.inl ⟨by rfl, ?_⟩) ?_ ?_
        rotate_left
        · intro w'
          go_simp
          with_reducible rfl
        rotate_left
        · simp only [Act.put, List.setIfInBounds_toArray, List.set_cons_zero, List.set_cons_succ, i64_w, i32_w]
          rfl
        refine pure_ (i := 7) (N := some 48) (v := ?_) (a' := ?_) #[true, true, true, true, true, true, true, true, false, false, false, false, false, false, false, false] rfl rfl (by kernel_rfl) (fun _ _ _ h => h) (Or.inl ⟨by rfl, ?_⟩) ?_ ?_
        rotate_left
        · intro w'
          go_simp
          with_reducible rfl
        rotate_left
        · simp only [Act.put, List.setIfInBounds_toArray, List.set_cons_zero, List.set_cons_succ, i64_w, i32_w]
          rfl
        refine take_ (i := 8) (N := some 49) (v := ?_) (a' := ?_) #[true, true, true, true, true, true, true, true, true, false, false, false, false, false, false, false] rfl rfl (by kernel_rfl) (fun _ _ _ h => h) (Or.inl ⟨by rfl, ?_⟩) hHeld ?_ ?_
        rotate_left
        · rintro w' ⟨s0, s1, s2⟩
          go_simp
          with_reducible rfl
        rotate_left
        · simp only [Act.put, List.setIfInBounds_toArray, List.set_cons_zero, List.set_cons_succ, i64_w, i32_w]
          rfl
        refine pure_ (i := 9) (N := some 50) (v := ?_) (a' := ?_) #[true, true, true, true, true, true, true, true, true, true, false, false, false, false, false, false] rfl rfl (by kernel_rfl) (fun _ _ _ h => h) (Or.inl ⟨by rfl, ?_⟩) ?_ ?_
        rotate_left
        · intro w'
          go_simp
          with_reducible rfl
        rotate_left
        · simp only [Act.put, List.setIfInBounds_toArray, List.set_cons_zero, List.set_cons_succ, i64_w, i32_w]
          rfl
        refine pure_ (i := 10) (N := some 51) (v := ?_) (a' := ?_) #[true, true, true, true, true, true, true, true, true, true, true, false, false, false, false, false] rfl rfl (by kernel_rfl) (fun _ _ _ h => h) (Or.inl ⟨by rfl, ?_⟩) ?_ ?_
        rotate_left
        · intro w'
          go_simp
          with_reducible rfl
        rotate_left
        · simp only [Act.put, List.setIfInBounds_toArray, List.set_cons_zero, List.set_cons_succ, i64_w, i32_w]
          rfl
        refine pure_ (i := 11) (N := some 52) (v := ?_) (a' := ?_) #[true, true, true, true, true, true, true, true, true, true, true, true, false, false, false, false] rfl rfl (by kernel_rfl) (fun _ _ _ h => h) (Or.inl ⟨by rfl, ?_⟩) ?_ ?_
        rotate_left
        · intro w'
          go_simp
          with_reducible rfl
        rotate_left
        · simp only [Act.put, List.setIfInBounds_toArray, List.set_cons_zero, List.set_cons_succ, i64_w, i32_w]
          rfl
        refine take_ (i := 12) (N := some 53) (v := ?_) (a' := ?_) #[true, true, true, true, true, true, true, true, true, true, true, true, true, false, false, false] rfl rfl (by kernel_rfl) (fun _ _ _ h => h) (Or.inl ⟨by rfl, ?_⟩) hHeld ?_ ?_
        rotate_left
        · rintro w' ⟨s0, s1, s2⟩
          go_simp
          with_reducible rfl
        rotate_left
        · simp only [Act.put, List.setIfInBounds_toArray, List.set_cons_zero, List.set_cons_succ, i64_w, i32_w]
          rfl
        refine pure_ (i := 13) (N := some 54) (v := ?_) (a' := ?_) #[true, true, true, true, true, true, true, true, true, true, true, true, true, true, false, false] rfl rfl (by kernel_rfl) (fun _ _ _ h => h) (Or.inl ⟨by rfl, ?_⟩) ?_ ?_
        rotate_left
        · intro w'
          go_simp
          with_reducible rfl
        rotate_left
        · simp only [Act.put, List.setIfInBounds_toArray, List.set_cons_zero, List.set_cons_succ, i64_w, i32_w]
          rfl
        refine pure_ (i := 14) (N := some 13) (v := ?_) (a' := ?_) #[true, true, true, true, true, true, true, true, true, true, true, true, true, true, true, false] rfl rfl (by kernel_rfl) (fun _ _ _ h => h) (Or.inl ⟨by rfl, ?_⟩) ?_ ?_
        rotate_left
        · intro w'
          go_simp
          with_reducible rfl
        rotate_left
        · simp only [Act.put, List.setIfInBounds_toArray, List.set_cons_zero, List.set_cons_succ, i64_w, i32_w]
          rfl
        refine pure_ (i := 15) (N := some 14) (v := ?_) (a' := ?_) #[true, true, true, true, true, true, true, true, true, true, true, true, true, true, true, true] rfl rfl (by kernel_rfl) (fun _ _ _ h => h) (Or.inl ⟨by rfl, ?_⟩) ?_ ?_
        rotate_left
        · intro w'
          go_simp
          with_reducible rfl
        rotate_left
        · simp only [Act.put, List.setIfInBounds_toArray, List.set_cons_zero, List.set_cons_succ, i64_w, i32_w]
          rfl
        refine done_ (by kernel_rfl) ?_
        generalize wd.drew = we at HB BR BX HT HO hHeld ⊢
        clear hHeld ht1' ht2' ht3'
        obtain ⟨tw, htw⟩ : ∃ x, x = wrap64 (2 * tb) := ⟨_, rfl⟩
        obtain ⟨bo, hbo⟩ : ∃ x, x = wrap64 (ta + ty) := ⟨_, rfl⟩
        rw [← htw, ← hbo] at HH
        rw [← htw, ← hbo]
        clear htw hbo HT1 HT2 HT3
        have hz2 : we.cell? ⟨gb, 2, none⟩ = some (.bool b) := (blk_cell BX.out 2).trans rfl
        cases b with
        | true =>
          simp only [Bool.true_or] at HH
          by_cases lt : tw < bo
          · have ltb : decide (tw < bo) = true := decide_eq_true lt
            cases a1 with
            | true =>
              replace HH := Aside0.mk ((if_neg (fun h_ => absurd h_.2 (by simp))).symm.trans HH.out)
              go_wp2_with (first | ((with_reducible refine gate_store (t := 4) (p := 62) rfl ?_); refine impl_cross.store rfl rfl rfl gb 2 42 #[tv, .string s, .bool true] (.bool true) [.bool true] [tv, .string s, .bool true] rfl rfl BX.out rfl (by kernel_rfl) (by simp) (by intro q_ hq_; rw [List.mem_singleton.1 hq_]; rfl) rfl ?_; intro ws hbx_ hg_; replace HO := Aside0.mk (impl_cross.keepR HO.out (impl_cross.Stay.of_grown BX.out (by decide) hg_)); replace HT := Aside0.mk (Kd.S_mono (ok' := fun _ => True) (Kd.S_grown (Kd.S_types HT.out BX.out (by decide)) hg_ (fun k_ hk he => by injection he with he; exact hk.2 he)) (fun _ _ => trivial)); replace BR := Aside0.mk (blk_grown BR.out hg_ (by intro he; injection he with he; exact GN.out he)); replace HB := Aside0.mk (Below.grown HB.out hg_ (below_size HB.out) (fun k_ hk => by injection hk with hk; subst hk; exact GE.out)); replace BX := Aside0.mk hbx_; clear hbx_ hg_; have hz1 : ws.cell? ⟨gb, 1, none⟩ = some (.string s) := (blk_cell BX.out 1).trans rfl) | ((with_reducible refine gate_store (t := 9) (p := 95) rfl ?_); refine impl_cross.store rfl rfl rfl gb 1 42 #[tv, .string s, .bool true] (.string (s ++ (⟨#[101]⟩ : ByteArray))) [.string (s ++ (⟨#[101]⟩ : ByteArray))] [tv, .string (s ++ (⟨#[101]⟩ : ByteArray)), .bool true] rfl rfl BX.out rfl (by kernel_rfl) (by simp) (by intro q_ hq_; rw [List.mem_singleton.1 hq_]; rfl) rfl ?_; intro ws hbx_ hg_; replace HO := Aside0.mk (impl_cross.keepR HO.out (impl_cross.Stay.of_grown BX.out (by decide) hg_)); replace HT := Aside0.mk (Kd.S_mono (ok' := fun _ => True) (Kd.S_grown (Kd.S_types HT.out BX.out (by decide)) hg_ (fun k_ hk he => by injection he with he; exact hk.2 he)) (fun _ _ => trivial)); replace BR := Aside0.mk (blk_grown BR.out hg_ (by intro he; injection he with he; exact GN.out he)); replace HB := Aside0.mk (Below.grown HB.out hg_ (below_size HB.out) (fun k_ hk => by injection hk with hk; subst hk; exact GE.out)); replace BX := Aside0.mk hbx_; clear hbx_ hg_) | (go_at_call 50; (first | (with_reducible refine (impl_cross.trip2 _ _ HB.out GE.out BX.out HT.out (by have := HL.out; (try simp only [List.length_append, List.length_cons, List.length_nil]); omega)).mono ?_) | (with_reducible refine (impl_cross.trip1 _ HB.out GE.out BX.out HT.out (by have := HL.out; (try simp only [List.length_append, List.length_cons, List.length_nil]); omega)).mono ?_)); rintro e wt ⟨rfl, hb_, tv_, hbx_, hT_, hs_, hr_⟩; replace BR := Aside0.mk (hr_ _ _ GN.out BR.out); replace HO := Aside0.mk (impl_cross.keepR HO.out hs_); replace HB := Aside0.mk hb_; replace BX := Aside0.mk hbx_; replace HT := Aside0.mk hT_; clear hb_ hbx_ hT_ hs_ hr_))
              go_roundg k1
              case measure => have := HK1.out; omega
              case rel =>
                have H := HH.out
                rw [HNM.out] at H
                rw [show ls ++ [impl_cross.srt [a, z], impl_cross.srt [a], impl_cross.srt [a, y], impl_cross.srt [a]] = ((((ls ++ [impl_cross.srt [a, z]]) ++ [impl_cross.srt [a]]) ++ [impl_cross.srt [a, y]]) ++ [impl_cross.srt [a]]) by simp] at H
                exact ⟨n - 2, _, _, _, _, by first | rw [HNN.out] | (simp only [HNN.out]; done) | (congr 1; exact HNN.out), ⟨H⟩, ⟨by have := HK1.out; omega⟩, ⟨by have h9 := HN.out; have e101 : (⟨#[101]⟩ : ByteArray).size = 1 := rfl; have e102 : (⟨#[102]⟩ : ByteArray).size = 1 := rfl; refine ⟨by omega, by omega, ?_, ?_⟩ <;> simp only [List.length_append, List.length_cons, List.length_nil, ByteArray.size_append] <;> omega⟩, HB, BR, BX, HT, HO⟩
            | false =>
              replace HH := Aside0.mk ((if_pos ⟨lt, rfl⟩).symm.trans HH.out)
              go_wp2_with (first | ((with_reducible refine gate_store (t := 4) (p := 62) rfl ?_); refine impl_cross.store rfl rfl rfl gb 2 42 #[tv, .string s, .bool true] (.bool true) [.bool true] [tv, .string s, .bool true] rfl rfl BX.out rfl (by kernel_rfl) (by simp) (by intro q_ hq_; rw [List.mem_singleton.1 hq_]; rfl) rfl ?_; intro ws hbx_ hg_; replace HO := Aside0.mk (impl_cross.keepR HO.out (impl_cross.Stay.of_grown BX.out (by decide) hg_)); replace HT := Aside0.mk (Kd.S_mono (ok' := fun _ => True) (Kd.S_grown (Kd.S_types HT.out BX.out (by decide)) hg_ (fun k_ hk he => by injection he with he; exact hk.2 he)) (fun _ _ => trivial)); replace BR := Aside0.mk (blk_grown BR.out hg_ (by intro he; injection he with he; exact GN.out he)); replace HB := Aside0.mk (Below.grown HB.out hg_ (below_size HB.out) (fun k_ hk => by injection hk with hk; subst hk; exact GE.out)); replace BX := Aside0.mk hbx_; clear hbx_ hg_; have hz1 : ws.cell? ⟨gb, 1, none⟩ = some (.string s) := (blk_cell BX.out 1).trans rfl) | ((with_reducible refine gate_store (t := 9) (p := 73) rfl ?_); refine impl_cross.store rfl rfl rfl gb 1 42 #[tv, .string s, .bool true] (.string (s ++ (⟨#[102]⟩ : ByteArray))) [.string (s ++ (⟨#[102]⟩ : ByteArray))] [tv, .string (s ++ (⟨#[102]⟩ : ByteArray)), .bool true] rfl rfl BX.out rfl (by kernel_rfl) (by simp) (by intro q_ hq_; rw [List.mem_singleton.1 hq_]; rfl) rfl ?_; intro ws hbx_ hg_; replace HO := Aside0.mk (impl_cross.keepR HO.out (impl_cross.Stay.of_grown BX.out (by decide) hg_)); replace HT := Aside0.mk (Kd.S_mono (ok' := fun _ => True) (Kd.S_grown (Kd.S_types HT.out BX.out (by decide)) hg_ (fun k_ hk he => by injection he with he; exact hk.2 he)) (fun _ _ => trivial)); replace BR := Aside0.mk (blk_grown BR.out hg_ (by intro he; injection he with he; exact GN.out he)); replace HB := Aside0.mk (Below.grown HB.out hg_ (below_size HB.out) (fun k_ hk => by injection hk with hk; subst hk; exact GE.out)); replace BX := Aside0.mk hbx_; clear hbx_ hg_) | (go_at_call 50; (first | (with_reducible refine (impl_cross.trip2 _ _ HB.out GE.out BX.out HT.out (by have := HL.out; (try simp only [List.length_append, List.length_cons, List.length_nil]); omega)).mono ?_) | (with_reducible refine (impl_cross.trip1 _ HB.out GE.out BX.out HT.out (by have := HL.out; (try simp only [List.length_append, List.length_cons, List.length_nil]); omega)).mono ?_)); rintro e wt ⟨rfl, hb_, tv_, hbx_, hT_, hs_, hr_⟩; replace BR := Aside0.mk (hr_ _ _ GN.out BR.out); replace HO := Aside0.mk (impl_cross.keepR HO.out hs_); replace HB := Aside0.mk hb_; replace BX := Aside0.mk hbx_; replace HT := Aside0.mk hT_; clear hb_ hbx_ hT_ hs_ hr_))
              go_roundg k1
              case measure => have := HK1.out; omega
              case rel =>
                have H := HH.out
                rw [HNM.out] at H
                rw [show ls ++ [impl_cross.srt [a, bb], impl_cross.srt [a], impl_cross.srt [y, z], impl_cross.srt [bb]] = ((((ls ++ [impl_cross.srt [a, bb]]) ++ [impl_cross.srt [a]]) ++ [impl_cross.srt [y, z]]) ++ [impl_cross.srt [bb]]) by simp] at H
                exact ⟨n - 2, _, _, _, _, by first | rw [HNN.out] | (simp only [HNN.out]; done) | (congr 1; exact HNN.out), ⟨H⟩, ⟨by have := HK1.out; omega⟩, ⟨by have h9 := HN.out; have e101 : (⟨#[101]⟩ : ByteArray).size = 1 := rfl; have e102 : (⟨#[102]⟩ : ByteArray).size = 1 := rfl; refine ⟨by omega, by omega, ?_, ?_⟩ <;> simp only [List.length_append, List.length_cons, List.length_nil, ByteArray.size_append] <;> omega⟩, HB, BR, BX, HT, HO⟩
          · have ltb : decide (tw < bo) = false := decide_eq_false lt
            replace HH := Aside0.mk ((if_neg (fun h_ => lt h_.1)).symm.trans HH.out)
            go_wp2_with (first | ((with_reducible refine gate_store (t := 4) (p := 62) rfl ?_); refine impl_cross.store rfl rfl rfl gb 2 42 #[tv, .string s, .bool true] (.bool true) [.bool true] [tv, .string s, .bool true] rfl rfl BX.out rfl (by kernel_rfl) (by simp) (by intro q_ hq_; rw [List.mem_singleton.1 hq_]; rfl) rfl ?_; intro ws hbx_ hg_; replace HO := Aside0.mk (impl_cross.keepR HO.out (impl_cross.Stay.of_grown BX.out (by decide) hg_)); replace HT := Aside0.mk (Kd.S_mono (ok' := fun _ => True) (Kd.S_grown (Kd.S_types HT.out BX.out (by decide)) hg_ (fun k_ hk he => by injection he with he; exact hk.2 he)) (fun _ _ => trivial)); replace BR := Aside0.mk (blk_grown BR.out hg_ (by intro he; injection he with he; exact GN.out he)); replace HB := Aside0.mk (Below.grown HB.out hg_ (below_size HB.out) (fun k_ hk => by injection hk with hk; subst hk; exact GE.out)); replace BX := Aside0.mk hbx_; clear hbx_ hg_; have hz1 : ws.cell? ⟨gb, 1, none⟩ = some (.string s) := (blk_cell BX.out 1).trans rfl) | ((with_reducible refine gate_store (t := 9) (p := 95) rfl ?_); refine impl_cross.store rfl rfl rfl gb 1 42 #[tv, .string s, .bool true] (.string (s ++ (⟨#[101]⟩ : ByteArray))) [.string (s ++ (⟨#[101]⟩ : ByteArray))] [tv, .string (s ++ (⟨#[101]⟩ : ByteArray)), .bool true] rfl rfl BX.out rfl (by kernel_rfl) (by simp) (by intro q_ hq_; rw [List.mem_singleton.1 hq_]; rfl) rfl ?_; intro ws hbx_ hg_; replace HO := Aside0.mk (impl_cross.keepR HO.out (impl_cross.Stay.of_grown BX.out (by decide) hg_)); replace HT := Aside0.mk (Kd.S_mono (ok' := fun _ => True) (Kd.S_grown (Kd.S_types HT.out BX.out (by decide)) hg_ (fun k_ hk he => by injection he with he; exact hk.2 he)) (fun _ _ => trivial)); replace BR := Aside0.mk (blk_grown BR.out hg_ (by intro he; injection he with he; exact GN.out he)); replace HB := Aside0.mk (Below.grown HB.out hg_ (below_size HB.out) (fun k_ hk => by injection hk with hk; subst hk; exact GE.out)); replace BX := Aside0.mk hbx_; clear hbx_ hg_) | (go_at_call 50; (first | (with_reducible refine (impl_cross.trip2 _ _ HB.out GE.out BX.out HT.out (by have := HL.out; (try simp only [List.length_append, List.length_cons, List.length_nil]); omega)).mono ?_) | (with_reducible refine (impl_cross.trip1 _ HB.out GE.out BX.out HT.out (by have := HL.out; (try simp only [List.length_append, List.length_cons, List.length_nil]); omega)).mono ?_)); rintro e wt ⟨rfl, hb_, tv_, hbx_, hT_, hs_, hr_⟩; replace BR := Aside0.mk (hr_ _ _ GN.out BR.out); replace HO := Aside0.mk (impl_cross.keepR HO.out hs_); replace HB := Aside0.mk hb_; replace BX := Aside0.mk hbx_; replace HT := Aside0.mk hT_; clear hb_ hbx_ hT_ hs_ hr_))
            go_roundg k1
            case measure => have := HK1.out; omega
            case rel =>
              have H := HH.out
              rw [HNM.out] at H
              rw [show ls ++ [impl_cross.srt [a, z], impl_cross.srt [a], impl_cross.srt [a, y], impl_cross.srt [a]] = ((((ls ++ [impl_cross.srt [a, z]]) ++ [impl_cross.srt [a]]) ++ [impl_cross.srt [a, y]]) ++ [impl_cross.srt [a]]) by simp] at H
              exact ⟨n - 2, _, _, _, _, by first | rw [HNN.out] | (simp only [HNN.out]; done) | (congr 1; exact HNN.out), ⟨H⟩, ⟨by have := HK1.out; omega⟩, ⟨by have h9 := HN.out; have e101 : (⟨#[101]⟩ : ByteArray).size = 1 := rfl; have e102 : (⟨#[102]⟩ : ByteArray).size = 1 := rfl; refine ⟨by omega, by omega, ?_, ?_⟩ <;> simp only [List.length_append, List.length_cons, List.length_nil, ByteArray.size_append] <;> omega⟩, HB, BR, BX, HT, HO⟩
        | false =>
          simp only [Bool.false_or] at HH
          by_cases eq : tw = bo
          · have eqb : (tw == bo) = true := beq_iff_eq.mpr eq
            rw [decide_eq_true eq] at HH
            have ltb : decide (tw < bo) = false := decide_eq_false (by omega)
            replace HH := Aside0.mk ((if_neg (fun h_ => absurd h_.1 (by omega))).symm.trans HH.out)
            go_wp2_with (first | ((with_reducible refine gate_store (t := 4) (p := 62) rfl ?_); refine impl_cross.store rfl rfl rfl gb 2 42 #[tv, .string s, .bool false] (.bool true) [.bool true] [tv, .string s, .bool true] rfl rfl BX.out rfl (by kernel_rfl) (by simp) (by intro q_ hq_; rw [List.mem_singleton.1 hq_]; rfl) rfl ?_; intro ws hbx_ hg_; replace HO := Aside0.mk (impl_cross.keepR HO.out (impl_cross.Stay.of_grown BX.out (by decide) hg_)); replace HT := Aside0.mk (Kd.S_mono (ok' := fun _ => True) (Kd.S_grown (Kd.S_types HT.out BX.out (by decide)) hg_ (fun k_ hk he => by injection he with he; exact hk.2 he)) (fun _ _ => trivial)); replace BR := Aside0.mk (blk_grown BR.out hg_ (by intro he; injection he with he; exact GN.out he)); replace HB := Aside0.mk (Below.grown HB.out hg_ (below_size HB.out) (fun k_ hk => by injection hk with hk; subst hk; exact GE.out)); replace BX := Aside0.mk hbx_; clear hbx_ hg_; have hz1 : ws.cell? ⟨gb, 1, none⟩ = some (.string s) := (blk_cell BX.out 1).trans rfl) | ((with_reducible refine gate_store (t := 9) (p := 95) rfl ?_); refine impl_cross.store rfl rfl rfl gb 1 42 #[tv, .string s, .bool true] (.string (s ++ (⟨#[101]⟩ : ByteArray))) [.string (s ++ (⟨#[101]⟩ : ByteArray))] [tv, .string (s ++ (⟨#[101]⟩ : ByteArray)), .bool true] rfl rfl BX.out rfl (by kernel_rfl) (by simp) (by intro q_ hq_; rw [List.mem_singleton.1 hq_]; rfl) rfl ?_; intro ws hbx_ hg_; replace HO := Aside0.mk (impl_cross.keepR HO.out (impl_cross.Stay.of_grown BX.out (by decide) hg_)); replace HT := Aside0.mk (Kd.S_mono (ok' := fun _ => True) (Kd.S_grown (Kd.S_types HT.out BX.out (by decide)) hg_ (fun k_ hk he => by injection he with he; exact hk.2 he)) (fun _ _ => trivial)); replace BR := Aside0.mk (blk_grown BR.out hg_ (by intro he; injection he with he; exact GN.out he)); replace HB := Aside0.mk (Below.grown HB.out hg_ (below_size HB.out) (fun k_ hk => by injection hk with hk; subst hk; exact GE.out)); replace BX := Aside0.mk hbx_; clear hbx_ hg_) | (go_at_call 50; (first | (with_reducible refine (impl_cross.trip2 _ _ HB.out GE.out BX.out HT.out (by have := HL.out; (try simp only [List.length_append, List.length_cons, List.length_nil]); omega)).mono ?_) | (with_reducible refine (impl_cross.trip1 _ HB.out GE.out BX.out HT.out (by have := HL.out; (try simp only [List.length_append, List.length_cons, List.length_nil]); omega)).mono ?_)); rintro e wt ⟨rfl, hb_, tv_, hbx_, hT_, hs_, hr_⟩; replace BR := Aside0.mk (hr_ _ _ GN.out BR.out); replace HO := Aside0.mk (impl_cross.keepR HO.out hs_); replace HB := Aside0.mk hb_; replace BX := Aside0.mk hbx_; replace HT := Aside0.mk hT_; clear hb_ hbx_ hT_ hs_ hr_))
            go_roundg k1
            case measure => have := HK1.out; omega
            case rel =>
              have H := HH.out
              rw [HNM.out] at H
              rw [show ls ++ [impl_cross.srt [a, z], impl_cross.srt [a], impl_cross.srt [a, y], impl_cross.srt [a]] = ((((ls ++ [impl_cross.srt [a, z]]) ++ [impl_cross.srt [a]]) ++ [impl_cross.srt [a, y]]) ++ [impl_cross.srt [a]]) by simp] at H
              exact ⟨n - 2, _, _, _, _, by first | rw [HNN.out] | (simp only [HNN.out]; done) | (congr 1; exact HNN.out), ⟨H⟩, ⟨by have := HK1.out; omega⟩, ⟨by have h9 := HN.out; have e101 : (⟨#[101]⟩ : ByteArray).size = 1 := rfl; have e102 : (⟨#[102]⟩ : ByteArray).size = 1 := rfl; refine ⟨by omega, by omega, ?_, ?_⟩ <;> simp only [List.length_append, List.length_cons, List.length_nil, ByteArray.size_append] <;> omega⟩, HB, BR, BX, HT, HO⟩
          · have eqb : (tw == bo) = false := beq_eq_false_iff_ne.mpr eq
            rw [decide_eq_false eq] at HH
            by_cases lt : tw < bo
            · have ltb : decide (tw < bo) = true := decide_eq_true lt
              cases a1 with
              | true =>
                replace HH := Aside0.mk ((if_neg (fun h_ => absurd h_.2 (by simp))).symm.trans HH.out)
                go_wp2_with (first | ((with_reducible refine gate_store (t := 4) (p := 62) rfl ?_); refine impl_cross.store rfl rfl rfl gb 2 42 #[tv, .string s, .bool false] (.bool false) [.bool false] [tv, .string s, .bool false] rfl rfl BX.out rfl (by kernel_rfl) (by simp) (by intro q_ hq_; rw [List.mem_singleton.1 hq_]; rfl) rfl ?_; intro ws hbx_ hg_; replace HO := Aside0.mk (impl_cross.keepR HO.out (impl_cross.Stay.of_grown BX.out (by decide) hg_)); replace HT := Aside0.mk (Kd.S_mono (ok' := fun _ => True) (Kd.S_grown (Kd.S_types HT.out BX.out (by decide)) hg_ (fun k_ hk he => by injection he with he; exact hk.2 he)) (fun _ _ => trivial)); replace BR := Aside0.mk (blk_grown BR.out hg_ (by intro he; injection he with he; exact GN.out he)); replace HB := Aside0.mk (Below.grown HB.out hg_ (below_size HB.out) (fun k_ hk => by injection hk with hk; subst hk; exact GE.out)); replace BX := Aside0.mk hbx_; clear hbx_ hg_; have hz1 : ws.cell? ⟨gb, 1, none⟩ = some (.string s) := (blk_cell BX.out 1).trans rfl) | ((with_reducible refine gate_store (t := 9) (p := 95) rfl ?_); refine impl_cross.store rfl rfl rfl gb 1 42 #[tv, .string s, .bool false] (.string (s ++ (⟨#[101]⟩ : ByteArray))) [.string (s ++ (⟨#[101]⟩ : ByteArray))] [tv, .string (s ++ (⟨#[101]⟩ : ByteArray)), .bool false] rfl rfl BX.out rfl (by kernel_rfl) (by simp) (by intro q_ hq_; rw [List.mem_singleton.1 hq_]; rfl) rfl ?_; intro ws hbx_ hg_; replace HO := Aside0.mk (impl_cross.keepR HO.out (impl_cross.Stay.of_grown BX.out (by decide) hg_)); replace HT := Aside0.mk (Kd.S_mono (ok' := fun _ => True) (Kd.S_grown (Kd.S_types HT.out BX.out (by decide)) hg_ (fun k_ hk he => by injection he with he; exact hk.2 he)) (fun _ _ => trivial)); replace BR := Aside0.mk (blk_grown BR.out hg_ (by intro he; injection he with he; exact GN.out he)); replace HB := Aside0.mk (Below.grown HB.out hg_ (below_size HB.out) (fun k_ hk => by injection hk with hk; subst hk; exact GE.out)); replace BX := Aside0.mk hbx_; clear hbx_ hg_) | (go_at_call 50; (first | (with_reducible refine (impl_cross.trip2 _ _ HB.out GE.out BX.out HT.out (by have := HL.out; (try simp only [List.length_append, List.length_cons, List.length_nil]); omega)).mono ?_) | (with_reducible refine (impl_cross.trip1 _ HB.out GE.out BX.out HT.out (by have := HL.out; (try simp only [List.length_append, List.length_cons, List.length_nil]); omega)).mono ?_)); rintro e wt ⟨rfl, hb_, tv_, hbx_, hT_, hs_, hr_⟩; replace BR := Aside0.mk (hr_ _ _ GN.out BR.out); replace HO := Aside0.mk (impl_cross.keepR HO.out hs_); replace HB := Aside0.mk hb_; replace BX := Aside0.mk hbx_; replace HT := Aside0.mk hT_; clear hb_ hbx_ hT_ hs_ hr_))
                go_roundg k1
                case measure => have := HK1.out; omega
                case rel =>
                  have H := HH.out
                  rw [HNM.out] at H
                  rw [show ls ++ [impl_cross.srt [a, z], impl_cross.srt [a], impl_cross.srt [a, y], impl_cross.srt [a]] = ((((ls ++ [impl_cross.srt [a, z]]) ++ [impl_cross.srt [a]]) ++ [impl_cross.srt [a, y]]) ++ [impl_cross.srt [a]]) by simp] at H
                  exact ⟨n - 2, _, _, _, _, by first | rw [HNN.out] | (simp only [HNN.out]; done) | (congr 1; exact HNN.out), ⟨H⟩, ⟨by have := HK1.out; omega⟩, ⟨by have h9 := HN.out; have e101 : (⟨#[101]⟩ : ByteArray).size = 1 := rfl; have e102 : (⟨#[102]⟩ : ByteArray).size = 1 := rfl; refine ⟨by omega, by omega, ?_, ?_⟩ <;> simp only [List.length_append, List.length_cons, List.length_nil, ByteArray.size_append] <;> omega⟩, HB, BR, BX, HT, HO⟩
              | false =>
                replace HH := Aside0.mk ((if_pos ⟨lt, rfl⟩).symm.trans HH.out)
                go_wp2_with (first | ((with_reducible refine gate_store (t := 4) (p := 62) rfl ?_); refine impl_cross.store rfl rfl rfl gb 2 42 #[tv, .string s, .bool false] (.bool false) [.bool false] [tv, .string s, .bool false] rfl rfl BX.out rfl (by kernel_rfl) (by simp) (by intro q_ hq_; rw [List.mem_singleton.1 hq_]; rfl) rfl ?_; intro ws hbx_ hg_; replace HO := Aside0.mk (impl_cross.keepR HO.out (impl_cross.Stay.of_grown BX.out (by decide) hg_)); replace HT := Aside0.mk (Kd.S_mono (ok' := fun _ => True) (Kd.S_grown (Kd.S_types HT.out BX.out (by decide)) hg_ (fun k_ hk he => by injection he with he; exact hk.2 he)) (fun _ _ => trivial)); replace BR := Aside0.mk (blk_grown BR.out hg_ (by intro he; injection he with he; exact GN.out he)); replace HB := Aside0.mk (Below.grown HB.out hg_ (below_size HB.out) (fun k_ hk => by injection hk with hk; subst hk; exact GE.out)); replace BX := Aside0.mk hbx_; clear hbx_ hg_; have hz1 : ws.cell? ⟨gb, 1, none⟩ = some (.string s) := (blk_cell BX.out 1).trans rfl) | ((with_reducible refine gate_store (t := 9) (p := 73) rfl ?_); refine impl_cross.store rfl rfl rfl gb 1 42 #[tv, .string s, .bool false] (.string (s ++ (⟨#[102]⟩ : ByteArray))) [.string (s ++ (⟨#[102]⟩ : ByteArray))] [tv, .string (s ++ (⟨#[102]⟩ : ByteArray)), .bool false] rfl rfl BX.out rfl (by kernel_rfl) (by simp) (by intro q_ hq_; rw [List.mem_singleton.1 hq_]; rfl) rfl ?_; intro ws hbx_ hg_; replace HO := Aside0.mk (impl_cross.keepR HO.out (impl_cross.Stay.of_grown BX.out (by decide) hg_)); replace HT := Aside0.mk (Kd.S_mono (ok' := fun _ => True) (Kd.S_grown (Kd.S_types HT.out BX.out (by decide)) hg_ (fun k_ hk he => by injection he with he; exact hk.2 he)) (fun _ _ => trivial)); replace BR := Aside0.mk (blk_grown BR.out hg_ (by intro he; injection he with he; exact GN.out he)); replace HB := Aside0.mk (Below.grown HB.out hg_ (below_size HB.out) (fun k_ hk => by injection hk with hk; subst hk; exact GE.out)); replace BX := Aside0.mk hbx_; clear hbx_ hg_) | (go_at_call 50; (first | (with_reducible refine (impl_cross.trip2 _ _ HB.out GE.out BX.out HT.out (by have := HL.out; (try simp only [List.length_append, List.length_cons, List.length_nil]); omega)).mono ?_) | (with_reducible refine (impl_cross.trip1 _ HB.out GE.out BX.out HT.out (by have := HL.out; (try simp only [List.length_append, List.length_cons, List.length_nil]); omega)).mono ?_)); rintro e wt ⟨rfl, hb_, tv_, hbx_, hT_, hs_, hr_⟩; replace BR := Aside0.mk (hr_ _ _ GN.out BR.out); replace HO := Aside0.mk (impl_cross.keepR HO.out hs_); replace HB := Aside0.mk hb_; replace BX := Aside0.mk hbx_; replace HT := Aside0.mk hT_; clear hb_ hbx_ hT_ hs_ hr_))
                go_roundg k1
                case measure => have := HK1.out; omega
                case rel =>
                  have H := HH.out
                  rw [HNM.out] at H
                  rw [show ls ++ [impl_cross.srt [a, bb], impl_cross.srt [a], impl_cross.srt [y, z], impl_cross.srt [bb]] = ((((ls ++ [impl_cross.srt [a, bb]]) ++ [impl_cross.srt [a]]) ++ [impl_cross.srt [y, z]]) ++ [impl_cross.srt [bb]]) by simp] at H
                  exact ⟨n - 2, _, _, _, _, by first | rw [HNN.out] | (simp only [HNN.out]; done) | (congr 1; exact HNN.out), ⟨H⟩, ⟨by have := HK1.out; omega⟩, ⟨by have h9 := HN.out; have e101 : (⟨#[101]⟩ : ByteArray).size = 1 := rfl; have e102 : (⟨#[102]⟩ : ByteArray).size = 1 := rfl; refine ⟨by omega, by omega, ?_, ?_⟩ <;> simp only [List.length_append, List.length_cons, List.length_nil, ByteArray.size_append] <;> omega⟩, HB, BR, BX, HT, HO⟩
            · have ltb : decide (tw < bo) = false := decide_eq_false lt
              replace HH := Aside0.mk ((if_neg (fun h_ => lt h_.1)).symm.trans HH.out)
              go_wp2_with (first | ((with_reducible refine gate_store (t := 4) (p := 62) rfl ?_); refine impl_cross.store rfl rfl rfl gb 2 42 #[tv, .string s, .bool false] (.bool false) [.bool false] [tv, .string s, .bool false] rfl rfl BX.out rfl (by kernel_rfl) (by simp) (by intro q_ hq_; rw [List.mem_singleton.1 hq_]; rfl) rfl ?_; intro ws hbx_ hg_; replace HO := Aside0.mk (impl_cross.keepR HO.out (impl_cross.Stay.of_grown BX.out (by decide) hg_)); replace HT := Aside0.mk (Kd.S_mono (ok' := fun _ => True) (Kd.S_grown (Kd.S_types HT.out BX.out (by decide)) hg_ (fun k_ hk he => by injection he with he; exact hk.2 he)) (fun _ _ => trivial)); replace BR := Aside0.mk (blk_grown BR.out hg_ (by intro he; injection he with he; exact GN.out he)); replace HB := Aside0.mk (Below.grown HB.out hg_ (below_size HB.out) (fun k_ hk => by injection hk with hk; subst hk; exact GE.out)); replace BX := Aside0.mk hbx_; clear hbx_ hg_; have hz1 : ws.cell? ⟨gb, 1, none⟩ = some (.string s) := (blk_cell BX.out 1).trans rfl) | ((with_reducible refine gate_store (t := 9) (p := 95) rfl ?_); refine impl_cross.store rfl rfl rfl gb 1 42 #[tv, .string s, .bool false] (.string (s ++ (⟨#[101]⟩ : ByteArray))) [.string (s ++ (⟨#[101]⟩ : ByteArray))] [tv, .string (s ++ (⟨#[101]⟩ : ByteArray)), .bool false] rfl rfl BX.out rfl (by kernel_rfl) (by simp) (by intro q_ hq_; rw [List.mem_singleton.1 hq_]; rfl) rfl ?_; intro ws hbx_ hg_; replace HO := Aside0.mk (impl_cross.keepR HO.out (impl_cross.Stay.of_grown BX.out (by decide) hg_)); replace HT := Aside0.mk (Kd.S_mono (ok' := fun _ => True) (Kd.S_grown (Kd.S_types HT.out BX.out (by decide)) hg_ (fun k_ hk he => by injection he with he; exact hk.2 he)) (fun _ _ => trivial)); replace BR := Aside0.mk (blk_grown BR.out hg_ (by intro he; injection he with he; exact GN.out he)); replace HB := Aside0.mk (Below.grown HB.out hg_ (below_size HB.out) (fun k_ hk => by injection hk with hk; subst hk; exact GE.out)); replace BX := Aside0.mk hbx_; clear hbx_ hg_) | (go_at_call 50; (first | (with_reducible refine (impl_cross.trip2 _ _ HB.out GE.out BX.out HT.out (by have := HL.out; (try simp only [List.length_append, List.length_cons, List.length_nil]); omega)).mono ?_) | (with_reducible refine (impl_cross.trip1 _ HB.out GE.out BX.out HT.out (by have := HL.out; (try simp only [List.length_append, List.length_cons, List.length_nil]); omega)).mono ?_)); rintro e wt ⟨rfl, hb_, tv_, hbx_, hT_, hs_, hr_⟩; replace BR := Aside0.mk (hr_ _ _ GN.out BR.out); replace HO := Aside0.mk (impl_cross.keepR HO.out hs_); replace HB := Aside0.mk hb_; replace BX := Aside0.mk hbx_; replace HT := Aside0.mk hT_; clear hb_ hbx_ hT_ hs_ hr_))
              go_roundg k1
              case measure => have := HK1.out; omega
              case rel =>
                have H := HH.out
                rw [HNM.out] at H
                rw [show ls ++ [impl_cross.srt [a, z], impl_cross.srt [a], impl_cross.srt [a, y], impl_cross.srt [a]] = ((((ls ++ [impl_cross.srt [a, z]]) ++ [impl_cross.srt [a]]) ++ [impl_cross.srt [a, y]]) ++ [impl_cross.srt [a]]) by simp] at H
                exact ⟨n - 2, _, _, _, _, by first | rw [HNN.out] | (simp only [HNN.out]; done) | (congr 1; exact HNN.out), ⟨H⟩, ⟨by have := HK1.out; omega⟩, ⟨by have h9 := HN.out; have e101 : (⟨#[101]⟩ : ByteArray).size = 1 := rfl; have e102 : (⟨#[102]⟩ : ByteArray).size = 1 := rfl; refine ⟨by omega, by omega, ?_, ?_⟩ <;> simp only [List.length_append, List.length_cons, List.length_nil, ByteArray.size_append] <;> omega⟩, HB, BR, BX, HT, HO⟩
      · rw [if_neg c3] at H
        have c3b : decide (3 < (n : Int)) = false := decide_eq_false c3
        by_cases e3 : (n : Int) = 3
        · rw [if_pos e3] at H
          have e3b : ((n : Int) == 3) = true := beq_iff_eq.mpr e3
          have HZ := Aside0.mk (show 3 ≤ o.length by omega)
          obtain ⟨bb, h_bb⟩ : ∃ a, a = rd o 1 := ⟨_, rfl⟩
          have hx1_wr : wr.cell? ⟨go, 1, none⟩ = some (.int .i64 bb) := by rw [h_bb]; exact impl_cross.cellO HO.out 1 (by omega) (by omega)
          rw [← h_bb] at H
          have HA1 := Aside0.mk h_bb
          clear h_bb
          have m1 : (1 < o.length) = True := eq_true (by omega)
          have m1' : ((1 : Int) < (o.length : Int)) = True := eq_true (by omega)
          obtain ⟨cc, h_cc⟩ : ∃ a, a = rd o 2 := ⟨_, rfl⟩
          have hx2_wr : wr.cell? ⟨go, 2, none⟩ = some (.int .i64 cc) := by rw [h_cc]; exact impl_cross.cellO HO.out 2 (by omega) (by omega)
          rw [← h_cc] at H
          have HA2 := Aside0.mk h_cc
          clear h_cc
          have m2 : (2 < o.length) = True := eq_true (by omega)
          have m2' : ((2 : Int) < (o.length : Int)) = True := eq_true (by omega)
          have hx0_wr := hx0
          rw [show ls ++ [impl_cross.srt [a, bb], impl_cross.srt [a], impl_cross.srt [a, cc]] = ((ls ++ [impl_cross.srt [a, bb]]) ++ [impl_cross.srt [a]]) ++ [impl_cross.srt [a, cc]] by simp] at H
          simp only [Option.some.injEq, Prod.mk.injEq] at H
          obtain ⟨rfl, rfl, rfl⟩ := H
          clear hx0 hn hl0 hol hom ha0
          go_wp2
          have hd_ : Below wr.heap.size wr wr.drew := below_drew (Below.refl _ _)
          replace BR := Aside0.mk (blk_below BR.out hd_)
          replace BX := Aside0.mk (blk_below BX.out hd_)
          replace HT := Aside0.mk (Kd.S_below HT.out hd_)
          replace HO := Aside0.mk (Kd.R_below HO.out hd_)
          replace HB := Aside0.mk (below_step HB.out hd_)
          clear hd_
          refine start_ (n := 9) (S := fun w' => w'.cell? ⟨go, 0, none⟩ = some (.int .i64 a) ∧ w'.cell? ⟨go, 1, none⟩ = some (.int .i64 bb)) (ds := []) #[false, false, false, false, false, false, false, false, false] (by kernel_rfl) rfl rfl ⟨hx0_wr, hx1_wr⟩ (fun hHeld => ?_)
          refine pure_ (i := 0) (N := some 123) (v := ?_) (a' := ?_) #[true, false, false, false, false, false, false, false, false] rfl rfl (by kernel_rfl) (fun _ _ _ h => h) (Or.inl ⟨by rfl, ?_⟩) ?_ ?_
          rotate_left
          · intro w'
            go_simp
            with_reducible rfl
          rotate_left
          · simp only [Act.put, List.setIfInBounds_toArray, List.set_cons_zero, List.set_cons_succ, i64_w, i32_w]
            rfl
          refine pure_ (i := 1) (N := some 124) (v := ?_) (a' := ?_) #[true, true, false, false, false, false, false, false, false] rfl rfl (by kernel_rfl) (fun _ _ _ h => h) (Or.inl ⟨by rfl, ?_⟩) ?_ ?_
          rotate_left
          · intro w'
            go_simp
            with_reducible rfl
          rotate_left
          · simp only [Act.put, List.setIfInBounds_toArray, List.set_cons_zero, List.set_cons_succ, i64_w, i32_w]
            rfl
          refine pure_ (i := 2) (N := some 125) (v := ?_) (a' := ?_) #[true, true, true, false, false, false, false, false, false] rfl rfl (by kernel_rfl) (fun _ _ _ h => h) (Or.inl ⟨by rfl, ?_⟩) ?_ ?_
          rotate_left
          · intro w'
            go_simp
            with_reducible rfl
          rotate_left
          · simp only [Act.put, List.setIfInBounds_toArray, List.set_cons_zero, List.set_cons_succ, i64_w, i32_w]
            rfl
          refine take_ (i := 3) (N := some 126) (v := ?_) (a' := ?_) #[true, true, true, true, false, false, false, false, false] rfl rfl (by kernel_rfl) (fun _ _ _ h => h) (Or.inl ⟨by rfl, ?_⟩) hHeld ?_ ?_
          rotate_left
          · rintro w' ⟨s0, s1⟩
            go_simp
            with_reducible rfl
          rotate_left
          · simp only [Act.put, List.setIfInBounds_toArray, List.set_cons_zero, List.set_cons_succ, i64_w, i32_w]
            rfl
          refine pure_ (i := 4) (N := some 127) (v := ?_) (a' := ?_) #[true, true, true, true, true, false, false, false, false] rfl rfl (by kernel_rfl) (fun _ _ _ h => h) (Or.inl ⟨by rfl, ?_⟩) ?_ ?_
          rotate_left
          · intro w'
            go_simp
            with_reducible rfl
          rotate_left
          · simp only [Act.put, List.setIfInBounds_toArray, List.set_cons_zero, List.set_cons_succ, i64_w, i32_w]
            rfl
          refine pure_ (i := 5) (N := some 128) (v := ?_) (a' := ?_) #[true, true, true, true, true, true, false, false, false] rfl rfl (by kernel_rfl) (fun _ _ _ h => h) (Or.inl ⟨by rfl, ?_⟩) ?_ ?_
          rotate_left
          · intro w'
            go_simp
            with_reducible rfl
          rotate_left
          · simp only [Act.put, List.setIfInBounds_toArray, List.set_cons_zero, List.set_cons_succ, i64_w, i32_w]
            rfl
          refine take_ (i := 6) (N := some 129) (v := ?_) (a' := ?_) #[true, true, true, true, true, true, true, false, false] rfl rfl (by kernel_rfl) (fun _ _ _ h => h) (Or.inl ⟨by rfl, ?_⟩) hHeld ?_ ?_
          rotate_left
          · rintro w' ⟨s0, s1⟩
            go_simp
            with_reducible rfl
          rotate_left
          · simp only [Act.put, List.setIfInBounds_toArray, List.set_cons_zero, List.set_cons_succ, i64_w, i32_w]
            rfl
          generalize wr.drew = wa at HB BR BX HT HO hHeld ⊢
          refine one_ (i := 7) (N := some 130) #[true, true, true, true, true, true, true, true, false] rfl rfl (by kernel_rfl) (by decide) (fun K hK => ?_)
          refine event_step (v := .slice (some ⟨wa.heap.size, 0, none⟩) 2 2) (w1 := wa.alloc (.cells #[.int .i64 a, .int .i64 bb] 3)) (by rfl) ?hr ?_
          (case hr => first | (go_simp; done) | (go_simp; rfl))
          refine hK.out _ _ ⟨pw_cell_below (below_alloc (Below.refl _ _) _) hHeld.1, pw_cell_below (below_alloc (Below.refl _ _) _) hHeld.2⟩ (fun hHeld => ?_)
          clear hK K
          refine norm_ (a' := ?_) ?_ ?_
          rotate_left
          · show Act.put _ (some 130) _ = _
            simp only [Act.put, List.setIfInBounds_toArray, List.set_cons_zero, List.set_cons_succ, i64_w, i32_w]
            rfl
          refine one_ (i := 8) (N := some 131) #[true, true, true, true, true, true, true, true, true] rfl rfl (by kernel_rfl) (by decide) (fun K hK => ?_)
          refine call_ 50 #[.slice (some ⟨wa.heap.size, 0, none⟩) 2 2, .pointer (some ⟨gb, 0, none⟩)] (by rfl) rfl ?hrun ?_
          (case hrun => first | rfl | exact eg _ _ | (go_simp; exact eg _ _) | (go_simp; done) | (simp [eg]; done))
          with_reducible refine (impl_cross.trip2 a bb HB.out GE.out BX.out HT.out (by have := HL.out; (try simp only [List.length_append, List.length_cons, List.length_nil]); omega)).mono ?_
          rintro e wb ⟨rfl, hb_, tv_, hbx_, hT_, hs_, hr_⟩
          refine ⟨_, rfl, ?_⟩
          replace BR := Aside0.mk (hr_ _ _ GN.out BR.out)
          replace HO := Aside0.mk (impl_cross.keepR HO.out hs_)
          replace HB := Aside0.mk hb_
          replace BX := Aside0.mk hbx_
          replace HT := Aside0.mk hT_
          clear hb_ hbx_ hT_ hs_ hr_
          have hx0_wb : wb.cell? ⟨go, 0, none⟩ = some (.int .i64 a) := by rw [HA0.out]; exact impl_cross.cellO HO.out 0 (by omega) (by have := HZ.out; omega)
          have hx1_wb : wb.cell? ⟨go, 1, none⟩ = some (.int .i64 bb) := by rw [HA1.out]; exact impl_cross.cellO HO.out 1 (by omega) (by have := HZ.out; omega)
          refine hK.out _ _ ⟨hx0_wb, hx1_wb⟩ (fun hHeld => ?_)
          clear hK K
          refine norm_ (a' := ?_) ?_ ?_
          rotate_left
          · show Act.put _ (some 131) _ = _
            simp only [Act.put, List.setIfInBounds_toArray, List.set_cons_zero, List.set_cons_succ, i64_w, i32_w]
            rfl
          refine done_ (by kernel_rfl) ?_
          clear hHeld
          go_wp2_with (first | (go_at_call 50; (first | (with_reducible refine (impl_cross.trip2 _ _ HB.out GE.out BX.out HT.out (by have := HL.out; (try simp only [List.length_append, List.length_cons, List.length_nil]); omega)).mono ?_) | (with_reducible refine (impl_cross.trip1 _ HB.out GE.out BX.out HT.out (by have := HL.out; (try simp only [List.length_append, List.length_cons, List.length_nil]); omega)).mono ?_)); rintro e wt ⟨rfl, hb_, tv_, hbx_, hT_, hs_, hr_⟩; replace BR := Aside0.mk (hr_ _ _ GN.out BR.out); replace HO := Aside0.mk (impl_cross.keepR HO.out hs_); replace HB := Aside0.mk hb_; replace BX := Aside0.mk hbx_; replace HT := Aside0.mk hT_; clear hb_ hbx_ hT_ hs_ hr_))
          have hx0_wt : wt.cell? ⟨go, 0, none⟩ = some (.int .i64 a) := by rw [HA0.out]; exact impl_cross.cellO HO.out 0 (by omega) (by have := HZ.out; omega)
          have hx2_wt : wt.cell? ⟨go, 2, none⟩ = some (.int .i64 cc) := by rw [HA2.out]; exact impl_cross.cellO HO.out 2 (by omega) (by have := HZ.out; omega)
          have hd_ : Below wt.heap.size wt wt.drew := below_drew (Below.refl _ _)
          replace BR := Aside0.mk (blk_below BR.out hd_)
          replace BX := Aside0.mk (blk_below BX.out hd_)
          replace HT := Aside0.mk (Kd.S_below HT.out hd_)
          replace HO := Aside0.mk (Kd.R_below HO.out hd_)
          replace HB := Aside0.mk (below_step HB.out hd_)
          clear hd_
          refine start_ (n := 9) (S := fun w' => w'.cell? ⟨go, 0, none⟩ = some (.int .i64 a) ∧ w'.cell? ⟨go, 2, none⟩ = some (.int .i64 cc)) (ds := []) #[false, false, false, false, false, false, false, false, false] (by kernel_rfl) rfl rfl ⟨hx0_wt, hx2_wt⟩ (fun hHeld => ?_)
          refine pure_ (i := 0) (N := some 138) (v := ?_) (a' := ?_) #[true, false, false, false, false, false, false, false, false] rfl rfl (by kernel_rfl) (fun _ _ _ h => h) (Or.inl ⟨by rfl, ?_⟩) ?_ ?_
          rotate_left
          · intro w'
            go_simp
            with_reducible rfl
          rotate_left
          · simp only [Act.put, List.setIfInBounds_toArray, List.set_cons_zero, List.set_cons_succ, i64_w, i32_w]
            rfl
          refine pure_ (i := 1) (N := some 139) (v := ?_) (a' := ?_) #[true, true, false, false, false, false, false, false, false] rfl rfl (by kernel_rfl) (fun _ _ _ h => h) (Or.inl ⟨by rfl, ?_⟩) ?_ ?_
          rotate_left
          · intro w'
            go_simp
            with_reducible rfl
          rotate_left
          · simp only [Act.put, List.setIfInBounds_toArray, List.set_cons_zero, List.set_cons_succ, i64_w, i32_w]
            rfl
          refine pure_ (i := 2) (N := some 140) (v := ?_) (a' := ?_) #[true, true, true, false, false, false, false, false, false] rfl rfl (by kernel_rfl) (fun _ _ _ h => h) (Or.inl ⟨by rfl, ?_⟩) ?_ ?_
          rotate_left
          · intro w'
            go_simp
            with_reducible rfl
          rotate_left
          · simp only [Act.put, List.setIfInBounds_toArray, List.set_cons_zero, List.set_cons_succ, i64_w, i32_w]
            rfl
          refine take_ (i := 3) (N := some 141) (v := ?_) (a' := ?_) #[true, true, true, true, false, false, false, false, false] rfl rfl (by kernel_rfl) (fun _ _ _ h => h) (Or.inl ⟨by rfl, ?_⟩) hHeld ?_ ?_
          rotate_left
          · rintro w' ⟨s0, s1⟩
            go_simp
            with_reducible rfl
          rotate_left
          · simp only [Act.put, List.setIfInBounds_toArray, List.set_cons_zero, List.set_cons_succ, i64_w, i32_w]
            rfl
          refine pure_ (i := 4) (N := some 142) (v := ?_) (a' := ?_) #[true, true, true, true, true, false, false, false, false] rfl rfl (by kernel_rfl) (fun _ _ _ h => h) (Or.inl ⟨by rfl, ?_⟩) ?_ ?_
          rotate_left
          · intro w'
            go_simp
            with_reducible rfl
          rotate_left
          · simp only [Act.put, List.setIfInBounds_toArray, List.set_cons_zero, List.set_cons_succ, i64_w, i32_w]
            rfl
          refine pure_ (i := 5) (N := some 143) (v := ?_) (a' := ?_) #[true, true, true, true, true, true, false, false, false] rfl rfl (by kernel_rfl) (fun _ _ _ h => h) (Or.inl ⟨by rfl, ?_⟩) ?_ ?_
          rotate_left
          · intro w'
            go_simp
            with_reducible rfl
          rotate_left
          · simp only [Act.put, List.setIfInBounds_toArray, List.set_cons_zero, List.set_cons_succ, i64_w, i32_w]
            rfl
          refine take_ (i := 6) (N := some 144) (v := ?_) (a' := ?_) #[true, true, true, true, true, true, true, false, false] rfl rfl (by kernel_rfl) (fun _ _ _ h => h) (Or.inl ⟨by rfl, ?_⟩) hHeld ?_ ?_
          rotate_left
          · rintro w' ⟨s0, s1⟩
            go_simp
            with_reducible rfl
          rotate_left
          · simp only [Act.put, List.setIfInBounds_toArray, List.set_cons_zero, List.set_cons_succ, i64_w, i32_w]
            rfl
          generalize wt.drew = wc at HB BR BX HT HO hHeld ⊢
          refine one_ (i := 7) (N := some 145) #[true, true, true, true, true, true, true, true, false] rfl rfl (by kernel_rfl) (by decide) (fun K hK => ?_)
          refine event_step (v := .slice (some ⟨wc.heap.size, 0, none⟩) 2 2) (w1 := wc.alloc (.cells #[.int .i64 a, .int .i64 cc] 3)) (by rfl) ?hr ?_
          (case hr => first | (go_simp; done) | (go_simp; rfl))
          refine hK.out _ _ ⟨pw_cell_below (below_alloc (Below.refl _ _) _) hHeld.1, pw_cell_below (below_alloc (Below.refl _ _) _) hHeld.2⟩ (fun hHeld => ?_)
          clear hK K
          refine norm_ (a' := ?_) ?_ ?_
          rotate_left
          · show Act.put _ (some 145) _ = _
            simp only [Act.put, List.setIfInBounds_toArray, List.set_cons_zero, List.set_cons_succ, i64_w, i32_w]
            rfl
          refine one_ (i := 8) (N := some 146) #[true, true, true, true, true, true, true, true, true] rfl rfl (by kernel_rfl) (by decide) (fun K hK => ?_)
          refine call_ 50 #[.slice (some ⟨wc.heap.size, 0, none⟩) 2 2, .pointer (some ⟨gb, 0, none⟩)] (by rfl) rfl ?hrun ?_
          (case hrun => first | rfl | exact eg _ _ | (go_simp; exact eg _ _) | (go_simp; done) | (simp [eg]; done))
          with_reducible refine (impl_cross.trip2 a cc HB.out GE.out BX.out HT.out (by have := HL.out; (try simp only [List.length_append, List.length_cons, List.length_nil]); omega)).mono ?_
          rintro e we ⟨rfl, hb_, tv_, hbx_, hT_, hs_, hr_⟩
          refine ⟨_, rfl, ?_⟩
          replace BR := Aside0.mk (hr_ _ _ GN.out BR.out)
          replace HO := Aside0.mk (impl_cross.keepR HO.out hs_)
          replace HB := Aside0.mk hb_
          replace BX := Aside0.mk hbx_
          replace HT := Aside0.mk hT_
          clear hb_ hbx_ hT_ hs_ hr_
          have hx0_we : we.cell? ⟨go, 0, none⟩ = some (.int .i64 a) := by rw [HA0.out]; exact impl_cross.cellO HO.out 0 (by omega) (by have := HZ.out; omega)
          have hx2_we : we.cell? ⟨go, 2, none⟩ = some (.int .i64 cc) := by rw [HA2.out]; exact impl_cross.cellO HO.out 2 (by omega) (by have := HZ.out; omega)
          refine hK.out _ _ ⟨hx0_we, hx2_we⟩ (fun hHeld => ?_)
          clear hK K
          refine norm_ (a' := ?_) ?_ ?_
          rotate_left
          · show Act.put _ (some 146) _ = _
            simp only [Act.put, List.setIfInBounds_toArray, List.set_cons_zero, List.set_cons_succ, i64_w, i32_w]
            rfl
          refine done_ (by kernel_rfl) ?_
          clear hHeld
          have cy0 : we.cell? ⟨gb, 0, none⟩ = some tv_ := (blk_cell BX.out 0).trans rfl
          have cy1 : we.cell? ⟨gb, 1, none⟩ = some (.string s) := (blk_cell BX.out 1).trans rfl
          have cy2 : we.cell? ⟨gb, 2, none⟩ = some (.bool b) := (blk_cell BX.out 2).trans rfl
          go_wp2_with (first | ((with_reducible refine gate_store (t := 42) (p := 4) rfl ?_); refine impl_cross.store rfl rfl rfl gr 0 42 #[.slice none 0 0, .string ⟨#[]⟩, .bool false] (.agg #[tv_, .string s, .bool b]) [tv_, .string s, .bool b] [tv_, .string s, .bool b] rfl rfl BR.out rfl (by kernel_rfl) (by simp) (by intro q_ hq_; simp only [List.mem_cons, List.not_mem_nil, or_false] at hq_; rcases hq_ with rfl | rfl | rfl <;> first | rfl | exact (Kd.R_val (Kd.S_R HT.out)).2) rfl ?_; intro ws hbx_ hg_; replace HO := Aside0.mk (impl_cross.keepR HO.out (impl_cross.Stay.of_grown BR.out (by decide) hg_)); replace HT := Aside0.mk (Kd.S_mono (ok' := fun _ => True) (Kd.S_grown (Kd.S_types HT.out BR.out (by decide)) hg_ (fun k_ hk he => by injection he with he; exact hk.2 he)) (fun _ _ => trivial)); replace BX := Aside0.mk (blk_grown BX.out hg_ (by intro he; injection he with he; exact GN.out he.symm)); replace HB := Aside0.mk (Below.grown HB.out hg_ (below_size HB.out) (fun k_ hk => by injection hk with hk; subst hk; exact GR.out)); replace BR := Aside0.mk hbx_; clear hbx_ hg_))
          (try simp only [Exit.inBlock, Exit.then])
          refine bodyPost_ret (results_cell_row rfl _ _ gr 42 #[tv_, .string s, .bool b] (0, 0) _ rfl BR.out Try.underlying42 rfl (by kernel_rfl)) rfl ?_
          exact ⟨_, rfl, HT.out, HB.out⟩
        · rw [if_neg e3] at H
          have e3b : ((n : Int) == 3) = false := beq_eq_false_iff_ne.mpr e3
          by_cases e2 : (n : Int) = 2
          · rw [if_pos e2] at H
            have e2b : ((n : Int) == 2) = true := beq_iff_eq.mpr e2
            have HZ := Aside0.mk (show 2 ≤ o.length by omega)
            obtain ⟨bb, h_bb⟩ : ∃ a, a = rd o 1 := ⟨_, rfl⟩
            have hx1_wr : wr.cell? ⟨go, 1, none⟩ = some (.int .i64 bb) := by rw [h_bb]; exact impl_cross.cellO HO.out 1 (by omega) (by omega)
            rw [← h_bb] at H
            have HA1 := Aside0.mk h_bb
            clear h_bb
            have m1 : (1 < o.length) = True := eq_true (by omega)
            have m1' : ((1 : Int) < (o.length : Int)) = True := eq_true (by omega)
            have hx0_wr := hx0
            simp only [Option.some.injEq, Prod.mk.injEq] at H
            obtain ⟨rfl, rfl, rfl⟩ := H
            clear hx0 hn hl0 hol hom ha0
            go_wp2
            have hd_ : Below wr.heap.size wr wr.drew := below_drew (Below.refl _ _)
            replace BR := Aside0.mk (blk_below BR.out hd_)
            replace BX := Aside0.mk (blk_below BX.out hd_)
            replace HT := Aside0.mk (Kd.S_below HT.out hd_)
            replace HO := Aside0.mk (Kd.R_below HO.out hd_)
            replace HB := Aside0.mk (below_step HB.out hd_)
            clear hd_
            refine start_ (n := 9) (S := fun w' => w'.cell? ⟨go, 0, none⟩ = some (.int .i64 a) ∧ w'.cell? ⟨go, 1, none⟩ = some (.int .i64 bb)) (ds := []) #[false, false, false, false, false, false, false, false, false] (by kernel_rfl) rfl rfl ⟨hx0_wr, hx1_wr⟩ (fun hHeld => ?_)
            refine pure_ (i := 0) (N := some 149) (v := ?_) (a' := ?_) #[true, false, false, false, false, false, false, false, false] rfl rfl (by kernel_rfl) (fun _ _ _ h => h) (Or.inl ⟨by rfl, ?_⟩) ?_ ?_
            rotate_left
            · intro w'
              go_simp
              with_reducible rfl
            rotate_left
            · simp only [Act.put, List.setIfInBounds_toArray, List.set_cons_zero, List.set_cons_succ, i64_w, i32_w]
              rfl
            refine pure_ (i := 1) (N := some 150) (v := ?_) (a' := ?_) #[true, true, false, false, false, false, false, false, false] rfl rfl (by kernel_rfl) (fun _ _ _ h => h) (Or.inl ⟨by rfl, ?_⟩) ?_ ?_
            rotate_left
            · intro w'
              go_simp
              with_reducible rfl
            rotate_left
            · simp only [Act.put, List.setIfInBounds_toArray, List.set_cons_zero, List.set_cons_succ, i64_w, i32_w]
              rfl
            refine pure_ (i := 2) (N := some 151) (v := ?_) (a' := ?_) #[true, true, true, false, false, false, false, false, false] rfl rfl (by kernel_rfl) (fun _ _ _ h => h) (Or.inl ⟨by rfl, ?_⟩) ?_ ?_
            rotate_left
            · intro w'
              go_simp
              with_reducible rfl
            rotate_left
            · simp only [Act.put, List.setIfInBounds_toArray, List.set_cons_zero, List.set_cons_succ, i64_w, i32_w]
              rfl
            refine take_ (i := 3) (N := some 152) (v := ?_) (a' := ?_) #[true, true, true, true, false, false, false, false, false] rfl rfl (by kernel_rfl) (fun _ _ _ h => h) (Or.inl ⟨by rfl, ?_⟩) hHeld ?_ ?_
            rotate_left
            · rintro w' ⟨s0, s1⟩
              go_simp
              with_reducible rfl
            rotate_left
            · simp only [Act.put, List.setIfInBounds_toArray, List.set_cons_zero, List.set_cons_succ, i64_w, i32_w]
              rfl
            refine pure_ (i := 4) (N := some 153) (v := ?_) (a' := ?_) #[true, true, true, true, true, false, false, false, false] rfl rfl (by kernel_rfl) (fun _ _ _ h => h) (Or.inl ⟨by rfl, ?_⟩) ?_ ?_
            rotate_left
            · intro w'
              go_simp
              with_reducible rfl
            rotate_left
            · simp only [Act.put, List.setIfInBounds_toArray, List.set_cons_zero, List.set_cons_succ, i64_w, i32_w]
              rfl
            refine pure_ (i := 5) (N := some 154) (v := ?_) (a' := ?_) #[true, true, true, true, true, true, false, false, false] rfl rfl (by kernel_rfl) (fun _ _ _ h => h) (Or.inl ⟨by rfl, ?_⟩) ?_ ?_
            rotate_left
            · intro w'
              go_simp
              with_reducible rfl
            rotate_left
            · simp only [Act.put, List.setIfInBounds_toArray, List.set_cons_zero, List.set_cons_succ, i64_w, i32_w]
              rfl
            refine take_ (i := 6) (N := some 155) (v := ?_) (a' := ?_) #[true, true, true, true, true, true, true, false, false] rfl rfl (by kernel_rfl) (fun _ _ _ h => h) (Or.inl ⟨by rfl, ?_⟩) hHeld ?_ ?_
            rotate_left
            · rintro w' ⟨s0, s1⟩
              go_simp
              with_reducible rfl
            rotate_left
            · simp only [Act.put, List.setIfInBounds_toArray, List.set_cons_zero, List.set_cons_succ, i64_w, i32_w]
              rfl
            generalize wr.drew = wa at HB BR BX HT HO hHeld ⊢
            refine one_ (i := 7) (N := some 156) #[true, true, true, true, true, true, true, true, false] rfl rfl (by kernel_rfl) (by decide) (fun K hK => ?_)
            refine event_step (v := .slice (some ⟨wa.heap.size, 0, none⟩) 2 2) (w1 := wa.alloc (.cells #[.int .i64 a, .int .i64 bb] 3)) (by rfl) ?hr ?_
            (case hr => first | (go_simp; done) | (go_simp; rfl))
            refine hK.out _ _ ⟨pw_cell_below (below_alloc (Below.refl _ _) _) hHeld.1, pw_cell_below (below_alloc (Below.refl _ _) _) hHeld.2⟩ (fun hHeld => ?_)
            clear hK K
            refine norm_ (a' := ?_) ?_ ?_
            rotate_left
            · show Act.put _ (some 156) _ = _
              simp only [Act.put, List.setIfInBounds_toArray, List.set_cons_zero, List.set_cons_succ, i64_w, i32_w]
              rfl
            refine one_ (i := 8) (N := some 157) #[true, true, true, true, true, true, true, true, true] rfl rfl (by kernel_rfl) (by decide) (fun K hK => ?_)
            refine call_ 50 #[.slice (some ⟨wa.heap.size, 0, none⟩) 2 2, .pointer (some ⟨gb, 0, none⟩)] (by rfl) rfl ?hrun ?_
            (case hrun => first | rfl | exact eg _ _ | (go_simp; exact eg _ _) | (go_simp; done) | (simp [eg]; done))
            with_reducible refine (impl_cross.trip2 a bb HB.out GE.out BX.out HT.out (by have := HL.out; (try simp only [List.length_append, List.length_cons, List.length_nil]); omega)).mono ?_
            rintro e wb ⟨rfl, hb_, tv_, hbx_, hT_, hs_, hr_⟩
            refine ⟨_, rfl, ?_⟩
            replace BR := Aside0.mk (hr_ _ _ GN.out BR.out)
            replace HO := Aside0.mk (impl_cross.keepR HO.out hs_)
            replace HB := Aside0.mk hb_
            replace BX := Aside0.mk hbx_
            replace HT := Aside0.mk hT_
            clear hb_ hbx_ hT_ hs_ hr_
            have hx0_wb : wb.cell? ⟨go, 0, none⟩ = some (.int .i64 a) := by rw [HA0.out]; exact impl_cross.cellO HO.out 0 (by omega) (by have := HZ.out; omega)
            have hx1_wb : wb.cell? ⟨go, 1, none⟩ = some (.int .i64 bb) := by rw [HA1.out]; exact impl_cross.cellO HO.out 1 (by omega) (by have := HZ.out; omega)
            refine hK.out _ _ ⟨hx0_wb, hx1_wb⟩ (fun hHeld => ?_)
            clear hK K
            refine norm_ (a' := ?_) ?_ ?_
            rotate_left
            · show Act.put _ (some 157) _ = _
              simp only [Act.put, List.setIfInBounds_toArray, List.set_cons_zero, List.set_cons_succ, i64_w, i32_w]
              rfl
            refine done_ (by kernel_rfl) ?_
            clear hHeld
            have cy0 : wb.cell? ⟨gb, 0, none⟩ = some tv_ := (blk_cell BX.out 0).trans rfl
            have cy1 : wb.cell? ⟨gb, 1, none⟩ = some (.string s) := (blk_cell BX.out 1).trans rfl
            have cy2 : wb.cell? ⟨gb, 2, none⟩ = some (.bool b) := (blk_cell BX.out 2).trans rfl
            go_wp2_with (first | ((with_reducible refine gate_store (t := 42) (p := 4) rfl ?_); refine impl_cross.store rfl rfl rfl gr 0 42 #[.slice none 0 0, .string ⟨#[]⟩, .bool false] (.agg #[tv_, .string s, .bool b]) [tv_, .string s, .bool b] [tv_, .string s, .bool b] rfl rfl BR.out rfl (by kernel_rfl) (by simp) (by intro q_ hq_; simp only [List.mem_cons, List.not_mem_nil, or_false] at hq_; rcases hq_ with rfl | rfl | rfl <;> first | rfl | exact (Kd.R_val (Kd.S_R HT.out)).2) rfl ?_; intro ws hbx_ hg_; replace HO := Aside0.mk (impl_cross.keepR HO.out (impl_cross.Stay.of_grown BR.out (by decide) hg_)); replace HT := Aside0.mk (Kd.S_mono (ok' := fun _ => True) (Kd.S_grown (Kd.S_types HT.out BR.out (by decide)) hg_ (fun k_ hk he => by injection he with he; exact hk.2 he)) (fun _ _ => trivial)); replace BX := Aside0.mk (blk_grown BX.out hg_ (by intro he; injection he with he; exact GN.out he.symm)); replace HB := Aside0.mk (Below.grown HB.out hg_ (below_size HB.out) (fun k_ hk => by injection hk with hk; subst hk; exact GR.out)); replace BR := Aside0.mk hbx_; clear hbx_ hg_))
            (try simp only [Exit.inBlock, Exit.then])
            refine bodyPost_ret (results_cell_row rfl _ _ gr 42 #[tv_, .string s, .bool b] (0, 0) _ rfl BR.out Try.underlying42 rfl (by kernel_rfl)) rfl ?_
            exact ⟨_, rfl, HT.out, HB.out⟩
          · rw [if_neg e2] at H
            have e2b : ((n : Int) == 2) = false := beq_eq_false_iff_ne.mpr e2
            simp only [Option.some.injEq, Prod.mk.injEq] at H
            obtain ⟨rfl, rfl, rfl⟩ := H
            clear hn hl0 hol hom ha0
            go_wp2_with (first | (go_at_call 50; (first | (with_reducible refine (impl_cross.trip2 _ _ HB.out GE.out BX.out HT.out (by have := HL.out; (try simp only [List.length_append, List.length_cons, List.length_nil]); omega)).mono ?_) | (with_reducible refine (impl_cross.trip1 _ HB.out GE.out BX.out HT.out (by have := HL.out; (try simp only [List.length_append, List.length_cons, List.length_nil]); omega)).mono ?_)); rintro e wt ⟨rfl, hb_, tv_, hbx_, hT_, hs_, hr_⟩; replace BR := Aside0.mk (hr_ _ _ GN.out BR.out); replace HO := Aside0.mk (impl_cross.keepR HO.out hs_); replace HB := Aside0.mk hb_; replace BX := Aside0.mk hbx_; replace HT := Aside0.mk hT_; clear hb_ hbx_ hT_ hs_ hr_; have cy0 : wt.cell? ⟨gb, 0, none⟩ = some tv_ := (blk_cell BX.out 0).trans rfl; have cy1 : wt.cell? ⟨gb, 1, none⟩ = some (.string s) := (blk_cell BX.out 1).trans rfl; have cy2 : wt.cell? ⟨gb, 2, none⟩ = some (.bool b) := (blk_cell BX.out 2).trans rfl) | ((with_reducible refine gate_store (t := 42) (p := 4) rfl ?_); refine impl_cross.store rfl rfl rfl gr 0 42 #[.slice none 0 0, .string ⟨#[]⟩, .bool false] (.agg #[tv_, .string s, .bool b]) [tv_, .string s, .bool b] [tv_, .string s, .bool b] rfl rfl BR.out rfl (by kernel_rfl) (by simp) (by intro q_ hq_; simp only [List.mem_cons, List.not_mem_nil, or_false] at hq_; rcases hq_ with rfl | rfl | rfl <;> first | rfl | exact (Kd.R_val (Kd.S_R HT.out)).2) rfl ?_; intro ws hbx_ hg_; replace HO := Aside0.mk (impl_cross.keepR HO.out (impl_cross.Stay.of_grown BR.out (by decide) hg_)); replace HT := Aside0.mk (Kd.S_mono (ok' := fun _ => True) (Kd.S_grown (Kd.S_types HT.out BR.out (by decide)) hg_ (fun k_ hk he => by injection he with he; exact hk.2 he)) (fun _ _ => trivial)); replace BX := Aside0.mk (blk_grown BX.out hg_ (by intro he; injection he with he; exact GN.out he.symm)); replace HB := Aside0.mk (Below.grown HB.out hg_ (below_size HB.out) (fun k_ hk => by injection hk with hk; subst hk; exact GR.out)); replace BR := Aside0.mk hbx_; clear hbx_ hg_))
            (try simp only [Exit.inBlock, Exit.then])
            refine bodyPost_ret (results_cell_row rfl _ _ gr 42 #[tv_, .string s, .bool b] (0, 0) _ rfl BR.out Try.underlying42 rfl (by kernel_rfl)) rfl ?_
            exact ⟨_, rfl, HT.out, HB.out⟩

end Go.Proofs.Ytmejodmokogblaa.G
