-- Laid by wip/gprint.py (the session's own program, round the kit's printer) for this claim.
import Derived.Test.YtlbmbofhbficgaaGSox0
import Derived.Test.YtlbmbofhbficgaaGSox1
import Derived.Test.YtlbmbofhbficgaaGSox2
namespace Go.Proofs.Ytlbmbofhbficgaa.G
open Go.RowKit Go.Proofs.YtlbmbofhbficgaaW.PrintWords Go.Proofs.YtlbmbofhbficgaaW.PrintLast Go.Proofs.YtlbmbofhbficgaaW.PrintMore
attribute [local go_sem] max2_int min2_int max_two min_two max_three min_three max_four min_four   -- for this text's walks alone
set_option linter.unusedVariables false
set_option linter.unusedSimpArgs false

/-! ### impl_SortParty: function 55 -/
def impl_SortParty.lays_ren : Go.Shelf.Ren := ⟨fun | 189 => 101 | 125 => 109 | 257 => 108 | 128 => 121 | 129 => 122 | 294 => 112 | 295 => 113 | 296 => 114 | 297 => 115 | 298 => 116 | 299 => 117 | 216 => 118 | 300 => 119 | 301 => 120 | 328 => 123 | 329 => 124 | 330 => 125 | 331 => 126 | 332 => 127 | 215 => 128 | 343 => 129 | n => n, fun | 28 => 22 | 3 => 3 | 46 => 101 | 0 => 0 | 51 => 107 | 53 => 110 | 4 => 4 | 183 => 115 | 182 => 114 | 131 => 31 | 5 => 5 | 9 => 9 | 218 => 122 | 222 => 126 | 228 => 128 | 229 => 129 | n => n, fun | n => n⟩
theorem impl_SortParty.lays : Lays.n189 Try.prog impl_SortParty.lays_ren where
  mixed := by kernel_rfl
  f125 := Try.func109.trans (congrArg some (by kernel_rfl))
  f128 := Try.func121.trans (congrArg some (by kernel_rfl))
  f129 := Try.func122.trans (congrArg some (by kernel_rfl))
  f189 := Try.func101.trans (congrArg some (by kernel_rfl))
  f215 := Try.func128.trans (congrArg some (by kernel_rfl))
  f216 := Try.func118.trans (congrArg some (by kernel_rfl))
  f257 := Try.func108.trans (congrArg some (by kernel_rfl))
  f294 := Try.func112.trans (congrArg some (by kernel_rfl))
  f295 := Try.func113.trans (congrArg some (by kernel_rfl))
  f296 := Try.func114.trans (congrArg some (by kernel_rfl))
  f297 := Try.func115.trans (congrArg some (by kernel_rfl))
  f298 := Try.func116.trans (congrArg some (by kernel_rfl))
  f299 := Try.func117.trans (congrArg some (by kernel_rfl))
  f300 := Try.func119.trans (congrArg some (by kernel_rfl))
  f301 := Try.func120.trans (congrArg some (by kernel_rfl))
  f328 := Try.func123.trans (congrArg some (by kernel_rfl))
  f329 := Try.func124.trans (congrArg some (by kernel_rfl))
  f330 := Try.func125.trans (congrArg some (by kernel_rfl))
  f331 := Try.func126.trans (congrArg some (by kernel_rfl))
  f332 := Try.func127.trans (congrArg some (by kernel_rfl))
  f343 := Try.func129.trans (congrArg some (by kernel_rfl))
  t0 := Try.underlying0
  a0 := Try.isAgg0
  z0 := Try.sizeOf0
  v0 := Try.zeroValue0
  t3 := Try.underlying3
  a3 := Try.isAgg3
  z3 := Try.sizeOf3
  v3 := Try.zeroValue3
  t4 := Try.underlying4
  a4 := Try.isAgg4
  z4 := Try.sizeOf4
  v4 := Try.zeroValue4
  t5 := Try.underlying5
  a5 := Try.isAgg5
  z5 := Try.sizeOf5
  v5 := Try.zeroValue5
  t9 := Try.underlying9
  a9 := Try.isAgg9
  z9 := Try.sizeOf9
  v9 := Try.zeroValue9
  t28 := Try.underlying22
  a28 := Try.isAgg22
  z28 := Try.sizeOf22
  v28 := Try.zeroValue22
  t46 := Try.underlying101
  a46 := Try.isAgg101
  z46 := Try.sizeOf101
  v46 := Try.zeroValue101
  t51 := Try.underlying107
  a51 := Try.isAgg107
  z51 := Try.sizeOf107
  v51 := Try.zeroValue107
  t53 := Try.underlying110
  a53 := Try.isAgg110
  z53 := Try.sizeOf110
  v53 := Try.zeroValue110
  t131 := Try.underlying31
  a131 := Try.isAgg31
  z131 := Try.sizeOf31
  v131 := Try.zeroValue31
  t182 := Try.underlying114
  a182 := Try.isAgg114
  z182 := Try.sizeOf114
  v182 := Try.zeroValue114
  t183 := Try.underlying115
  a183 := Try.isAgg115
  z183 := Try.sizeOf115
  v183 := Try.zeroValue115
  t218 := Try.underlying122
  a218 := Try.isAgg122
  z218 := Try.sizeOf122
  v218 := Try.zeroValue122
  t222 := Try.underlying126
  a222 := Try.isAgg126
  z222 := Try.sizeOf126
  v222 := Try.zeroValue126
  t228 := Try.underlying128
  a228 := Try.isAgg128
  z228 := Try.sizeOf128
  v228 := Try.zeroValue128
  t229 := Try.underlying129
  a229 := Try.isAgg129
  z229 := Try.sizeOf129
  v229 := Try.zeroValue129
def impl_SortParty.srt (x : List Int) : List Int := x.mergeSort fun x y => decide (x ≤ y)
theorem impl_SortParty.srt_length (x : List Int) : (impl_SortParty.srt x).length = x.length := by simp [impl_SortParty.srt]
def impl_SortParty.f (l0 : List Int) (a1 : Int) : Option (List Int × Int × Bool) := (impl_IsParty.f l0 a1).bind fun t => if t = true then (if 0 < l0.length ∧ l0.length ≤ 1048576 then some (impl_SortParty.srt l0, a1, true) else none) else some (([] : List Int), 0, false)
theorem impl_SortParty.info : (Try.prog.info? 3).map (fun i => (i.zero, i.size, i.bytes)) = some (some (.int .i64 0), 1, 8) := by kernel_rfl
def impl_SortParty.upto {α : Type} (f : Nat → α) (k : Nat) : List α := (List.range k).map f
theorem impl_SortParty.upto_succ {α : Type} (f : Nat → α) (k : Nat) : impl_SortParty.upto f (k + 1) = impl_SortParty.upto f k ++ [f k] := by simp [impl_SortParty.upto, List.range_succ]
theorem impl_SortParty.upto_length {α : Type} (f : Nat → α) (k : Nat) : (impl_SortParty.upto f k).length = k := by simp [impl_SortParty.upto]
theorem impl_SortParty.upto_all (zs : List Int) : impl_SortParty.upto (fun j => zs[j]?.getD 0) zs.length = zs := by
  apply List.ext_getElem
  · simp [impl_SortParty.upto]
  · intro i h1 h2
    simp [impl_SortParty.upto, h2]
theorem impl_SortParty.upto_take (zs : List Int) {k : Nat} (hk : k ≤ zs.length) : impl_SortParty.upto (fun j => zs[j]?.getD 0) k = zs.take k := by
  apply List.ext_getElem
  · simp [impl_SortParty.upto, hk]
  · intro i h1 h2
    have : i < zs.length := by simp [impl_SortParty.upto] at h1; omega
    simp [impl_SortParty.upto, this]
open Go.Shelf Go.Sort in
attribute [local go_sem] Oper.semAt_some in
set_option maxRecDepth 100000 in
set_option maxHeartbeats 4000000 in
theorem impl_SortParty.values1_in (F : Fence) (n : Nat) (h7 : F.fn 102) (hro : F.round = none) (hn : 1 ≤ n) (l Bs n₀ b off len cap : Nat) (zs : List Int) (hreach : len * 8 ≤ 140737488351232) (hb : b < n₀) (J Jx : List Int → World → Prop)
    (hY : ∀ pre x W, J pre W → pre.length < len → YieldAt F (n - 1) Try.prog l #[.int .i64 x] W fun e W' =>
      (e = .returned (.bool true) ∧ J (pre ++ [x]) W' ∧ Below n₀ W W') ∨ (e = .returned (.bool false) ∧ Jx (pre ++ [x]) W'))
    (W : World) (hBs : W.cell? ⟨Bs, 0, none⟩ = some (.slice (some ⟨b, off, none⟩) len cap)) (hc : ∀ j, j < len → W.cell? ⟨b, off + j, none⟩ = some (.int .i64 (zs[j]?.getD 0))) (h0 : J [] W) :
    CallsIn F n Try.prog 102 #[.func (.yield l) #[] #[], .pointer (some ⟨Bs, 0, none⟩)] W fun e W' => (∃ v, e = .returned v) ∧
      ((∃ ys, ys = impl_SortParty.upto (fun j => zs[j]?.getD 0) len ∧ J ys W') ∨ (∃ pre, (∃ k, k ≤ len ∧ pre = impl_SortParty.upto (fun j => zs[j]?.getD 0) k) ∧ Jx pre W')) := by
  refine callsIn_of_wp Try.func102 rfl h7 ?_ hro
  simp only [Try.ntmps102, List.size_toArray, List.length_cons, List.length_nil, Nat.reduceAdd, Nat.reduceSub, Array.replicate_succ, Array.replicate_zero, List.push_toArray, List.append_toArray, List.nil_append, List.cons_append]
  gi_wp2
  gi_loopw [7] (fun i wr => ∃ k : Nat, k ≤ len ∧ i = .int .i64 k ∧ J (impl_SortParty.upto (fun j => zs[j]?.getD 0) k) wr ∧ Below n₀ W wr)
    (fun i _ => len - (intOf i).toNat)
  case atStart => exact ⟨0, Nat.zero_le _, rfl, h0, Below.refl _ _⟩
  case round =>
    obtain ⟨k, hk, rfl, hJs, hnx⟩ := hrel
    have hcx : k < len → wr.cell? ⟨b, off + k, none⟩ = some (.int .i64 (zs[k]?.getD 0)) := fun h => (hnx.cell (p := ⟨b, off + k, none⟩) hb).trans (hc k h)
    by_cases hlt : k < len
    · obtain ⟨fn, tmps, assign, body, hy, hR⟩ := hY _ (zs[k]?.getD 0) wr hJs (by rw [impl_SortParty.upto_length]; exact hlt)
      have hcx' := hcx hlt
      gi_wp2
      refine hR.mono ?_
      rintro e W3 (⟨rfl, hJ3, hk3⟩ | ⟨rfl, hJx3⟩)
      · gi_wp2
        go_roundw
        case rel => exact ⟨k + 1, by omega, by simp, by rw [impl_SortParty.upto_succ]; exact hJ3, hnx.trans hk3⟩
        case measure => simp [intOf]; omega
      · gi_wp2
        refine bodyPost_ret (results_none rfl _ _ _) rfl ?_
        exact ⟨⟨_, rfl⟩, .inr ⟨_, ⟨k + 1, by omega, (impl_SortParty.upto_succ _ _).symm⟩, hJx3⟩⟩
    · obtain rfl : k = len := by omega
      gi_wp2
      go_end0
      exact ⟨⟨_, rfl⟩, .inl ⟨_, rfl, hJs⟩⟩
open Go.Shelf Go.Sort in
attribute [local go_sem] Oper.semAt_some in
set_option maxRecDepth 100000 in
set_option maxHeartbeats 4000000 in
theorem impl_SortParty.values_in (F : Fence) (n : Nat) (h5 : F.fn 89) (hro : F.round = none) (a : Option Addr) (len cap : Nat) (w : World) :
    CallsIn F n Try.prog 89 #[.slice a len cap] w fun e w' => e = .returned (.func (.func 102) #[] #[.pointer (some ⟨w.heap.size, 0, none⟩)]) ∧ w' = w.alloc (.cells #[.slice a len cap] 22) := by
  refine callsIn_of_wp Try.func89 rfl h5 ?_ hro
  simp only [Try.ntmps89, List.size_toArray, List.length_cons, List.length_nil, Nat.reduceAdd, Nat.reduceSub, Array.replicate_succ, Array.replicate_zero, List.push_toArray, List.append_toArray, List.nil_append, List.cons_append]
  gi_wp2
  go_ret
  exact ⟨rfl, rfl⟩
/-- The slice value sv holds the ints zs, in a block below n₀. -/
def impl_SortParty.Ints (n₀ : Nat) (W : World) (sv : Value) (zs : List Int) : Prop :=
  ∃ b off cap, sv = .slice (some ⟨b, off, none⟩) zs.length cap ∧ b < n₀ ∧ ∀ j, j < zs.length → W.cell? ⟨b, off + j, none⟩ = some (.int .i64 (zs[j]?.getD 0))
theorem impl_SortParty.Ints.below {n₀ : Nat} {A B : World} (h : Below n₀ A B) {sv : Value} {zs : List Int} : impl_SortParty.Ints n₀ A sv zs → impl_SortParty.Ints n₀ B sv zs
  | ⟨b, off, cap, e, hb, hc⟩ => ⟨b, off, cap, e, hb, fun j hj => (h.cell (p := ⟨b, off + j, none⟩) hb).trans (hc j hj)⟩
open Go.Shelf Go.Sort in
theorem impl_SortParty.values_stops (F : Fence) (n : Nat) (h7 : F.fn 102) (hro : F.round = none) (hn : 1 ≤ n) (Bs n₀ : Nat) (sv : Value) (zs : List Int) (hreach : zs.length * 8 ≤ 140737488351232) (w : World) (hBs : Bs < w.heap.size) (hn₀ : n₀ ≤ w.heap.size)
    (hc : w.cell? ⟨Bs, 0, none⟩ = some sv) (hI : impl_SortParty.Ints n₀ w sv zs) :
    SeqStopsK F n Try.prog 102 #[.pointer (some ⟨Bs, 0, none⟩)] (fun x : Int => #[Value.int .i64 x]) (Below n₀) (fun ys => ys = zs) (fun pre => pre <+: zs) zs.length w := fun l J Jx W hW _ _ hY h0 => by
  have hc' := (hW.cell (p := ⟨Bs, 0, none⟩) hBs).trans hc
  obtain ⟨b, off, cap, rfl, hb, hcs⟩ := hI.below (hW.mono hn₀)
  refine (impl_SortParty.values1_in F n h7 hro hn l Bs n₀ b off zs.length cap zs hreach hb J Jx hY W hc' hcs h0).mono ?_
  rintro e W' ⟨he, ⟨ys, rfl, hj⟩ | ⟨pre, ⟨k, hk, rfl⟩, hj⟩⟩
  · exact ⟨he, .inl ⟨_, impl_SortParty.upto_all zs, hj⟩⟩
  · exact ⟨he, .inr ⟨_, by rw [impl_SortParty.upto_take zs hk]; exact List.take_prefix _ _, hj⟩⟩
open Go.Shelf Go.Sort in
attribute [local go_sem] Oper.semAt_some in
set_option maxRecDepth 100000 in
set_option maxHeartbeats 4000000 in
theorem impl_SortParty.append (Bs : Nat) (sv : Value) (zs : List Int) (hl : zs.length ≤ 1048576) (w : World) (hBs : Bs < w.heap.size) (hc : w.cell? ⟨Bs, 0, none⟩ = some sv) (hI : impl_SortParty.Ints w.heap.size w sv zs) :
    Calls Try.prog 107 #[.slice none 0 0, .func (.func 102) #[] #[.pointer (some ⟨Bs, 0, none⟩)]] w fun e W' => ∃ v, e = .returned v ∧ W'.ownsRow w.heap.size 3 1 v zs.length (zs.map (Value.int .i64)) ∧ Below w.heap.size w W' := by
  refine (callsIn_wide (n := 9)).1 ?_
  have hro : Fence.wide.round = none := rfl
  have h1 : 1 ≤ 9 := by omega
  obtain ⟨i0, hi, hz0, hz1, hz2⟩ := info_parts impl_SortParty.info
  refine callsIn_of_wp_marks Try.func107 rfl trivial ?_ hro
  simp only [Try.ntmps107, List.size_toArray, List.length_cons, List.length_nil, Nat.reduceAdd, Nat.reduceSub, Array.replicate_succ, Array.replicate_zero, List.push_toArray, List.append_toArray, List.nil_append, List.cons_append]
  gi_wp2
  have bO := Boxed.new w 22 (.slice none 0 0)
  have hB0 : Below w.heap.size w (w.alloc (.cells #[.slice none 0 0] 22)) := (Below.refl _ w).alloc (Nat.le_refl _) _
  refine wpIn_rangeFunc_ownG hro h1 (gf := 102) (lb := #[.pointer (some ⟨Bs, 0, none⟩)]) rfl trivial (enters_of Try.func102 (by kernel_rfl) rfl)
    (impl_SortParty.values_stops Fence.wide (9 - 1) trivial hro (by omega) Bs w.heap.size sv zs (by omega) _ (by simp; omega) (by simp) ((hB0.cell (p := ⟨Bs, 0, none⟩) hBs).trans hc) (hI.below hB0)) belowK_t (belowK_b (by simp)) (Below.refl _ _) (fun _ => rfl)
    (fun pre W => (∃ v, Boxed W w.heap.size 22 v ∧ W.ownsRow w.heap.size 3 1 v pre.length (pre.map (Value.int .i64)) ∧ True) ∧ Below w.heap.size w W)
    (fun _ _ _ => False)
    (OwnFrom.and (Own.from (holdsRow_own w.heap.size w.heap.size 22 3 1 (fun (pre : List Int) => pre.length) (fun (pre : List Int) => pre.map (Value.int .i64)) (fun _ _ => True)) _) (ownFrom_below (Nat.le_refl _) (by simp)))
    (fun _ _ _ _ _ hs _ _ => hs)
    ⟨⟨_, bO, World.ownsRow_nil _ _ _ _, trivial⟩, hB0⟩
    (fun x => { tmps := #[.slice none 0 0, .func (.func 102) #[] #[.pointer (some ⟨Bs, 0, none⟩)], .pointer (some ⟨w.heap.size, 0, none⟩), undef, .slice none 0 0, .int .i64 x, .func (.func 102) #[] #[.pointer (some ⟨Bs, 0, none⟩)], .int .i64 x, undef, undef, undef, undef, undef], defers := [] }) ?assign ?body ?done ?stop
  case assign =>
    intro l x W K hK
    gi_wp2
    exact hK
  case body =>
    rintro l pre x W ⟨⟨v, hv, hrow, _⟩, hB⟩ hlt
    have hc := hv.cell
    gi_wp2_with (gi_at_builtin; refine wpListIn_append_own _ rfl _ _ 22 rfl w.heap.size 3 i0 (.int .i64 0) 1 8 Try.underlying22 hi hz0 hz1 hz2 rfl (by decide) _ _ _ rfl (hrow.alloc _) ⟨W.heap.size, 0, none⟩ 1 1 [.int .i64 x] rfl rfl (cell_one_new _ _ _) (by simp [Value.oneCell']) (by simp only [maxLen]; omega) (by omega) (by have := hB.size; simp; omega) ?_; intro v' w1 hown' hgrow _; obtain ⟨g', cap', rfl⟩ := ownsRow_succ hown'; obtain ⟨hv1, hv2, hr2, hk2, hb2⟩ := hv.appended (by decide) hrow hB.size (Nat.le_refl _) hown' hgrow; have hc1 := hv1.cell; have hf1 := hv1.frozen)
    exact ⟨hk2.from _, hb2, ⟨_, hv2, by simpa using hr2, trivial⟩, hB.trans hb2⟩
  case done =>
    rintro D ys W hD rfl ⟨⟨v, hv, hrow, _⟩, hB⟩ hK
    have hc := hv.cell
    gi_wp2
    refine ⟨by simp, .inl ⟨_, _, rfl, run_takeDeferred hK, ?_⟩⟩
    exact ⟨_, results_tmp rfl _ _ _, v, rfl, ownsRow_putObj hrow _ hK rfl, hB.trans (belowK_b (w := w) (Nat.le_refl _) W D _ _ (by simp at hD; omega) hK rfl rfl)⟩
  case stop =>
    rintro D c pre W _ _ h _
    exact h.elim
open Go.Shelf Go.Sort in
attribute [local go_sem] Oper.semAt_some in
set_option maxRecDepth 100000 in
set_option maxHeartbeats 4000000 in
theorem impl_SortParty.collect (Bs : Nat) (sv : Value) (zs : List Int) (hl : zs.length ≤ 1048576) (w : World) (hBs : Bs < w.heap.size) (hc : w.cell? ⟨Bs, 0, none⟩ = some sv) (hI : impl_SortParty.Ints w.heap.size w sv zs) :
    Calls Try.prog 100 #[.func (.func 102) #[] #[.pointer (some ⟨Bs, 0, none⟩)]] w fun e W' => ∃ v, e = .returned v ∧ W'.ownsRow w.heap.size 3 1 v zs.length (zs.map (Value.int .i64)) ∧ Below w.heap.size w W' := by
  have hap := impl_SortParty.append Bs sv zs hl w hBs hc hI
  clear hBs hc hI
  go_enter Try.func100, Try.ntmps100
  go_wp2_with (go_at_call 107; refine hap.mono ?_; rintro e w1 ⟨v, rfl, hrow, hb⟩)
  go_ret
  exact ⟨v, rfl, hrow, hb⟩
open Go.Shelf Go.Sort in
attribute [local go_sem] Oper.semAt_some in
set_option maxRecDepth 100000 in
set_option maxHeartbeats 4000000 in
theorem impl_SortParty.sorted (Bs : Nat) (sv : Value) (zs : List Int) (h0 : 0 < zs.length) (hl : zs.length ≤ 1048576) (w : World) (hBs : Bs < w.heap.size) (hc : w.cell? ⟨Bs, 0, none⟩ = some sv) (hI : impl_SortParty.Ints w.heap.size w sv zs) :
    Calls Try.prog 88 #[.func (.func 102) #[] #[.pointer (some ⟨Bs, 0, none⟩)]] w fun e W' => ∃ v, e = .returned v ∧ Kd.R (Kd.int .i64) 3 W' w.heap.size (fun _ => True) v (impl_SortParty.srt zs) ∧ Below w.heap.size w W' := by
  have hco := impl_SortParty.collect Bs sv zs hl w hBs hc hI
  clear hBs hc hI
  go_enter Try.func88, Try.ntmps88
  go_wp2_with (go_at_call 100; refine hco.mono ?_; rintro e W ⟨v, rfl, hrow, hb⟩; clear hco)
  rcases hrow.2 with ⟨rfl, hz⟩ | ⟨gb, cap, cur, rfl, hbase, hgb, r1, r2, r3, r4⟩
  · omega
  · have hH := holds_of_blockI hgb (by simpa using r4)
    have hgl : gb < W.heap.size := (Array.getElem?_eq_some_iff.1 hgb).1
    have hso : Calls Try.prog 101 #[.slice (some ⟨gb, 0, none⟩) zs.length cap] W _ := Any.slices_Sort_int impl_SortParty.lays gb 0 cap zs W hH hgl (by omega)
    go_wp2_with (go_at_call 101; refine hso.mono ?_; rintro e w' ⟨rfl, nn, os, rfl⟩; clear hso)
    go_ret
    have hsl : (impl_SortParty.srt zs).length = zs.length := impl_SortParty.srt_length zs
    refine ⟨_, rfl, Kd.R_of_own (enc := Value.int .i64) (h1 := fun _ => rfl) ?_ (fun _ _ => trivial), hb.grown (grownBy_sortedI _) hb.size (fun j hj => by cases hj; exact hbase)⟩
    have hfin := ownsRow_sortedI (n := nn) (os := os) (ts := impl_SortParty.srt zs) hsl hbase hgb r1 r2 r3
    rw [hsl]
    exact hfin
theorem impl_SortParty.ints_of {w : World} {A : Option Addr} {c n₀ : Nat} {l : List Int} (h0 : 0 < l.length) (hr : Kd.C (Kd.int .i64) w A l.length l) (hn : w.heap.size ≤ n₀) : impl_SortParty.Ints n₀ w (.slice A l.length c) l := by
  obtain ⟨ad, hA, _⟩ := Kd.at_int hr 0 (by omega) (by omega)
  subst hA
  obtain ⟨b, off, nn⟩ := ad
  have hall : ∀ j, j < l.length → w.cell? ((⟨b, off, nn⟩ : Addr).add j) = some (.int .i64 (l[j]?.getD 0)) := fun j hj => by
    obtain ⟨ad', he, hc⟩ := Kd.at_int hr (j : Int) (by omega) (by omega)
    injection he with he
    subst he
    rw [Int.toNat_natCast] at hc
    rw [hc]
    simp [rd, List.getD_eq_getElem?_getD]
  obtain rfl : nn = none := by
    cases nn with
    | none => rfl
    | some q =>
      have h9 := hall 0 h0
      simp only [World.cell?, Addr.add, if_true] at h9
      split at h9
      · simp at h9
      · cases h9
  have h1 : b < w.heap.size := World.block_lt_of_cell? w _ (hall 0 h0)
  exact ⟨b, off, c, rfl, Nat.lt_of_lt_of_le h1 hn, fun j hj => by rw [← add_at]; exact hall j hj⟩
open Go.Shelf Go.Sort in
attribute [local go_sem] Oper.semAt_some in
set_option maxRecDepth 100000 in
set_option maxHeartbeats 4000000 in
theorem impl_SortParty.calls (A0_0 : Option Addr) (c0_0 : Nat) (l0_0 : List Int) (a0_1 : Int) (r1 : List Int) (r2 : Int) (r3 : Bool) (w : World) (hr0_0 : Kd.C (Kd.int .i64) w A0_0 l0_0.length l0_0) (hc0_0 : l0_0.length ≤ c0_0) (h : impl_SortParty.f l0_0 a0_1 = some (r1, r2, r3)) :
    Calls Try.prog 55 #[.agg #[.slice A0_0 l0_0.length c0_0, .int .i64 a0_1]] w fun e w' => ∃ v0_ : Value, e = .returned (.tuple #[.agg #[v0_, .int .i64 r2], .bool r3]) ∧ Kd.R (Kd.int .i64) 3 w' w.heap.size (fun _ => True) v0_ r1 ∧ Below w.heap.size w w' := by
  have hu27 := Try.underlying27
  have HR0_0 := Aside0.mk hr0_0
  have HC0_0 := Aside0.mk hc0_0
  clear hr0_0 hc0_0
  have HB := Aside0.mk (Below.refl w.heap.size w)
  have H : ((impl_IsParty.f l0_0 a0_1).bind fun t => if t = true then (if 0 < l0_0.length ∧ l0_0.length ≤ 1048576 then some (impl_SortParty.srt l0_0, a0_1, true) else none) else some (([] : List Int), 0, false)) = some (r1, r2, r3) := h
  clear h
  obtain ⟨t, A60, H⟩ := Option.bind_eq_some_iff.mp H
  have A6 := Aside0.mk A60
  clear A60
  have HH := Aside0.mk H
  clear H
  go_enter Try.func55, Try.ntmps55
  go_upto_region 1 with (first | ((with_reducible refine gate_dst (N := 1) rfl ?_); refine box_event ?hg (N := 1) ?hd (cs := #[.slice A0_0 l0_0.length c0_0, .int .i64 a0_1]) (t := 27) ?hr ?_; (case hd => rfl); (case hg => rfl); (case hr => first | (go_simp; done) | (go_simp; rfl)); intro g1 hg w3 hbox hb; have n0_ := Aside0.mk (below_step HB.out hb); have n1_ := Aside0.mk hbox; have n2_ := Aside0.mk ((by rw [hg]; exact below_size HB.out) : w.heap.size ≤ g1); clear HB; have HB := n0_; have B1 := n1_; have G1 := n2_; clear n0_ n1_ n2_ hb hbox hg) | ((with_reducible refine gate_dst (N := 2) rfl ?_); refine box_event ?hg (N := 2) ?hd (cs := #[.slice none 0 0, .int .i64 0]) (t := 27) ?hr ?_; (case hd => rfl); (case hg => rfl); (case hr => first | (go_simp; done) | (go_simp; rfl)); intro g2 hg w4 hbox hb; have n0_ := Aside0.mk (below_step HB.out hb); have n1_ := Aside0.mk hbox; have n2_ := Aside0.mk ((by rw [hg]; exact below_size HB.out) : w.heap.size ≤ g2); have n3_ := Aside0.mk ((by rw [hg]; exact Nat.ne_of_lt (blk_lt B1.out)) : g1 ≠ g2); have n4_ := Aside0.mk (blk_below (g := g1) B1.out hb); clear HB B1; have HB := n0_; have B2 := n1_; have G2 := n2_; have N12 := n3_; have B1 := n4_; clear n0_ n1_ n2_ n3_ n4_ hb hbox hg))
  (try simp only [Act.put, List.setIfInBounds_toArray, List.set_cons_zero, List.set_cons_succ])
  cases t with
  | false =>
    have H := HH.out
    simp only [Bool.false_eq_true, if_false, Option.some.injEq, Prod.mk.injEq] at H
    obtain ⟨rfl, rfl, rfl⟩ := H
    clear HH
    have hz0 : w4.cell? ⟨g2, 0, none⟩ = some (.slice none 0 0) := (blk_cell B2.out 0).trans rfl
    have hz1 : w4.cell? ⟨g2, 1, none⟩ = some (.int .i64 0) := (blk_cell B2.out 1).trans rfl
    have hf0 := blk_frozen B2.out 0
    have hf1 := blk_frozen B2.out 1
    have hp0 : w4.cell? ⟨g1, 0, none⟩ = some (.slice A0_0 l0_0.length c0_0) := (blk_cell B1.out 0).trans rfl
    have hp1 : w4.cell? ⟨g1, 1, none⟩ = some (.int .i64 a0_1) := (blk_cell B1.out 1).trans rfl
    go_wp2_with (go_at_call 18; refine (impl_IsParty.calls _ _ l0_0 a0_1 false _ (Kd.C_below HR0_0.out HB.out) HC0_0.out A6.out).mono ?_; rintro e w5 ⟨rfl, hb⟩; replace B2 := Aside0.mk (blk_below (g := g2) B2.out hb); replace HB := Aside0.mk (below_step HB.out hb); clear hb hz0 hz1 hf0 hf1 hp0 hp1; have hz0 : w5.cell? ⟨g2, 0, none⟩ = some (.slice none 0 0) := (blk_cell B2.out 0).trans rfl; have hz1 : w5.cell? ⟨g2, 1, none⟩ = some (.int .i64 0) := (blk_cell B2.out 1).trans rfl; have hf0 := blk_frozen B2.out 0; have hf1 := blk_frozen B2.out 1)
    refine bodyPost_ret (results_ct rfl _ _ g2 27 #[.slice none 0 0, .int .i64 0] (0, 0) _ rfl (by refine blk_put (cs := #[.slice none 0 0, .int .i64 0]) ?_ 1 _ rfl; refine blk_put (cs := #[.slice none 0 0, .int .i64 0]) ?_ 0 _ rfl; exact B2.out) Try.underlying27 rfl (by kernel_rfl)) rfl ?_
    exact ⟨_, rfl, Kd.R_nil _ _ _ _ _, by repeat (first | exact HB.out | refine below_set ?_ G2.out)⟩
  | true =>
    have H := HH.out
    simp only [if_true] at H
    clear HH
    by_cases hl : 0 < l0_0.length ∧ l0_0.length ≤ 1048576
    · rw [if_pos hl] at H
      simp only [Option.some.injEq, Prod.mk.injEq] at H
      obtain ⟨rfl, rfl, rfl⟩ := H
      have hp0 : w4.cell? ⟨g1, 0, none⟩ = some (.slice A0_0 l0_0.length c0_0) := (blk_cell B1.out 0).trans rfl
      have hp1 : w4.cell? ⟨g1, 1, none⟩ = some (.int .i64 a0_1) := (blk_cell B1.out 1).trans rfl
      go_wp2_with (go_at_call 18; refine (impl_IsParty.calls _ _ l0_0 a0_1 true _ (Kd.C_below HR0_0.out HB.out) HC0_0.out A6.out).mono ?_; rintro e w5 ⟨rfl, hb⟩; replace B1 := Aside0.mk (blk_below (g := g1) B1.out hb); replace B2 := Aside0.mk (blk_below (g := g2) B2.out hb); replace HB := Aside0.mk (below_step HB.out hb); clear hb hp0 hp1)
      replace B1 := Aside0.mk (blk_drew B1.out)
      replace B2 := Aside0.mk (blk_drew B2.out)
      replace HB := Aside0.mk (below_drew1 HB.out)
      refine start_ (n := 9) (S := fun w' => w'.cell? ⟨g1, 0, none⟩ = some (.slice A0_0 l0_0.length c0_0) ∧ w'.cell? ⟨g1, 1, none⟩ = some (.int .i64 a0_1)) (ds := []) #[false, false, false, false, false, false, false, false, false] (by kernel_rfl) rfl rfl ⟨(blk_cell B1.out 0).trans rfl, (blk_cell B1.out 1).trans rfl⟩ (fun hHeld => ?_)
      generalize w5.drew = w6 at B1 B2 HB hHeld ⊢
      refine pure_ (i := 0) (N := some 8) (v := ?_) (a' := ?_) #[true, false, false, false, false, false, false, false, false] rfl rfl (by kernel_rfl) (fun _ _ _ h => h) (Or.inl ⟨by rfl, ?_⟩) ?_ ?_
      rotate_left
      · intro w'
        go_simp
        with_reducible rfl
      rotate_left
      · simp only [Act.put, List.setIfInBounds_toArray, List.set_cons_zero, List.set_cons_succ, i64_w, i32_w]
        rfl
      refine pure_ (i := 4) (N := some 12) (v := ?_) (a' := ?_) #[true, false, false, false, true, false, false, false, false] rfl rfl (by kernel_rfl) (fun _ _ _ h => h) (Or.inl ⟨by rfl, ?_⟩) ?_ ?_
      rotate_left
      · intro w'
        go_simp
        with_reducible rfl
      rotate_left
      · simp only [Act.put, List.setIfInBounds_toArray, List.set_cons_zero, List.set_cons_succ, i64_w, i32_w]
        rfl
      refine take_ (i := 1) (N := some 9) (v := ?_) (a' := ?_) #[true, true, false, false, true, false, false, false, false] rfl rfl (by kernel_rfl) (fun _ _ _ h => h) (Or.inl ⟨by rfl, ?_⟩) hHeld ?_ ?_
      rotate_left
      · rintro w' ⟨s0, s1⟩
        go_simp
        with_reducible rfl
      rotate_left
      · simp only [Act.put, List.setIfInBounds_toArray, List.set_cons_zero, List.set_cons_succ, i64_w, i32_w]
        rfl
      refine take_ (i := 5) (N := some 13) (v := ?_) (a' := ?_) #[true, true, false, false, true, true, false, false, false] rfl rfl (by kernel_rfl) (fun _ _ _ h => h) (Or.inl ⟨by rfl, ?_⟩) hHeld ?_ ?_
      rotate_left
      · rintro w' ⟨s0, s1⟩
        go_simp
        with_reducible rfl
      rotate_left
      · simp only [Act.put, List.setIfInBounds_toArray, List.set_cons_zero, List.set_cons_succ, i64_w, i32_w]
        rfl
      refine one_ (i := 2) (N := some 10) #[true, true, true, false, true, true, false, false, false] rfl rfl (by kernel_rfl) (by decide) (fun K hK => ?_)
      refine goes_ Try.func89 (by kernel_rfl) rfl #[.slice A0_0 l0_0.length c0_0] (by rfl) rfl rfl (by (try simp only [List.map_toArray, List.map_cons, List.map_nil]); first | done | rfl) ?_
      refine (callsIn_wide.1 (impl_SortParty.values_in Fence.wide 9 trivial rfl A0_0 l0_0.length c0_0 _)).mono ?_
      rintro e w7 ⟨rfl, rfl⟩
      refine ⟨_, rfl, ?_⟩
      have hbn := Boxed.new w6 22 (.slice A0_0 l0_0.length c0_0)
      have hba : Below w6.heap.size w6 (w6.alloc (.cells #[.slice A0_0 l0_0.length c0_0] 22)) := (Below.refl _ w6).alloc (Nat.le_refl _) _
      replace B1 := Aside0.mk (blk_below (g := g1) B1.out hba)
      replace B2 := Aside0.mk (blk_below (g := g2) B2.out hba)
      replace HB := Aside0.mk (below_step HB.out hba)
      clear hba
      have hsz7 : (w6.alloc (.cells #[.slice A0_0 l0_0.length c0_0] 22)).heap.size = w6.heap.size + 1 := by simp
      generalize (w6.alloc (.cells #[.slice A0_0 l0_0.length c0_0] 22)) = w7 at B1 B2 HB hbn hsz7 ⊢
      refine hK.out _ _ ⟨(blk_cell B1.out 0).trans rfl, (blk_cell B1.out 1).trans rfl⟩ (fun hHeld => ?_)
      clear hK K
      refine norm_ (a' := ?_) ?_ ?_
      rotate_left
      · show Act.put _ (some 10) _ = _
        simp only [Act.put, List.setIfInBounds_toArray, List.set_cons_zero, List.set_cons_succ, i64_w, i32_w]
        rfl
      refine one_ (i := 3) (N := some 11) #[true, true, true, true, true, true, false, false, false] rfl rfl (by kernel_rfl) (by decide) (fun K hK => ?_)
      refine goes_ Try.func88 (by kernel_rfl) rfl #[.func (.func 102) #[] #[.pointer (some ⟨w6.heap.size, 0, none⟩)]] (by rfl) rfl rfl (by (try simp only [List.map_toArray, List.map_cons, List.map_nil]); first | done | rfl) ?_
      refine (impl_SortParty.sorted w6.heap.size (.slice A0_0 l0_0.length c0_0) l0_0 hl.1 hl.2 w7 (by omega) hbn.cell (impl_SortParty.ints_of hl.1 (Kd.C_below HR0_0.out HB.out) (by have := HB.out.size; omega))).mono ?_
      rintro e w8 ⟨v8, rfl, ho0, hb⟩
      refine ⟨_, rfl, ?_⟩
      have HO := Aside0.mk (Kd.R_lower ho0 (below_size HB.out))
      replace B1 := Aside0.mk (blk_below (g := g1) B1.out hb)
      replace B2 := Aside0.mk (blk_below (g := g2) B2.out hb)
      replace HB := Aside0.mk (below_step HB.out hb)
      clear hb ho0 hbn hsz7
      obtain ⟨Ao, co, eo⟩ := Kd.R_slice HO.out
      subst eo
      refine hK.out _ _ ⟨(blk_cell B1.out 0).trans rfl, (blk_cell B1.out 1).trans rfl⟩ (fun hHeld => ?_)
      clear hK K
      refine norm_ (a' := ?_) ?_ ?_
      rotate_left
      · show Act.put _ (some 11) _ = _
        simp only [Act.put, List.setIfInBounds_toArray, List.set_cons_zero, List.set_cons_succ, i64_w, i32_w]
        rfl
      refine pure_ (i := 6) (N := some 14) (v := ?_) (a' := ?_) #[true, true, true, true, true, true, true, false, false] rfl rfl (by kernel_rfl) (fun _ _ _ h => h) (Or.inl ⟨by rfl, ?_⟩) ?_ ?_
      rotate_left
      · intro w'
        go_simp
        with_reducible rfl
      rotate_left
      · simp only [Act.put, List.setIfInBounds_toArray, List.set_cons_zero, List.set_cons_succ, i64_w, i32_w]
        rfl
      refine one_ (i := 7) (N := none) #[true, true, true, true, true, true, true, true, false] rfl rfl (by kernel_rfl) (by decide) (fun K hK => ?_)
      have hz0 : w8.cell? ⟨g2, 0, none⟩ = some (.slice none 0 0) := (blk_cell B2.out 0).trans rfl
      have hz1 : w8.cell? ⟨g2, 1, none⟩ = some (.int .i64 0) := (blk_cell B2.out 1).trans rfl
      have hf0 := blk_frozen B2.out 0
      have hf1 := blk_frozen B2.out 1
      refine skip_ (w1 := ?_) (by rfl) rfl ?_ ?_
      rotate_left
      · go_simp
        rfl
      refine hK.out _ _ ⟨((cell_far (p := ⟨g2, _, none⟩) N12.out _).trans ((cell_far (p := ⟨g2, _, none⟩) N12.out _).trans hHeld.1)), ((cell_far (p := ⟨g2, _, none⟩) N12.out _).trans ((cell_far (p := ⟨g2, _, none⟩) N12.out _).trans hHeld.2))⟩ (fun hHeld => ?_)
      clear hK K
      refine pure_ (i := 8) (N := some 3) (v := ?_) (a' := ?_) #[true, true, true, true, true, true, true, true, true] rfl rfl (by kernel_rfl) (fun _ _ _ h => h) (Or.inl ⟨by rfl, ?_⟩) ?_ ?_
      rotate_left
      · intro w'
        go_simp
        with_reducible rfl
      rotate_left
      · simp only [Act.put, List.setIfInBounds_toArray, List.set_cons_zero, List.set_cons_succ, i64_w, i32_w]
        rfl
      refine done_ (by kernel_rfl) ?_
      try go_wp2
      refine bodyPost_ret (results_ct rfl _ _ g2 27 #[.slice Ao (impl_SortParty.srt l0_0).length co, .int .i64 a0_1] (0, 0) _ rfl (by refine blk_put (cs := #[.slice Ao (impl_SortParty.srt l0_0).length co, .int .i64 0]) ?_ 1 _ rfl; refine blk_put (cs := #[.slice none 0 0, .int .i64 0]) ?_ 0 _ rfl; exact B2.out) Try.underlying27 rfl (by kernel_rfl)) rfl ?_
      exact ⟨_, rfl, Kd.R_mono (Kd.R_far (p := ⟨g2, 1, none⟩) (Kd.R_far (p := ⟨g2, 0, none⟩) (Kd.R_types HO.out B2.out (by decide)) (fun _ hk => hk.2) (.slice Ao (impl_SortParty.srt l0_0).length co)) (fun _ hk => hk.2) (.int .i64 a0_1)) (fun _ hk => trivial), by repeat (first | exact HB.out | refine below_set ?_ G2.out)⟩
    · rw [if_neg hl] at H
      cases H

/-! ### laws_FnExactSortParty: function 14 -/
theorem laws_FnExactSortParty.newR {α : Type} {d : Kd α} {e T : Nat} {w W W' : World} {v : Value} {xs : List α} (h : d.R e W' W.heap.size (fun _ => True) v xs) (ht : T ≤ W.heap.size) (hw : w.heap.size ≤ W.heap.size) (hs : W.heap.size ≤ W'.heap.size) : ∃ lo hi : Nat, (T ≤ lo ∧ lo ≤ hi) ∧ hi ≤ W'.heap.size ∧ d.R e W' w.heap.size (fun k_ => lo ≤ k_ ∧ k_ < hi) v xs :=
  ⟨W.heap.size, W'.heap.size, ⟨ht, hs⟩, Nat.le_refl _, Kd.R_lower (Kd.R_mono (Kd.R_bound h) (fun _ hk => ⟨hk.2.1, hk.2.2.1⟩)) hw⟩
theorem laws_FnExactSortParty.newS {α : Type} {d : Kd α} {e T : Nat} {w W W' : World} {v : Value} {xs : List α} (h : Kd.S d e W' W.heap.size (fun _ => True) v xs) (ht : T ≤ W.heap.size) (hw : w.heap.size ≤ W.heap.size) (hs : W.heap.size ≤ W'.heap.size) : ∃ lo hi : Nat, (T ≤ lo ∧ lo ≤ hi) ∧ hi ≤ W'.heap.size ∧ Kd.S d e W' w.heap.size (fun k_ => lo ≤ k_ ∧ k_ < hi) v xs :=
  ⟨W.heap.size, W'.heap.size, ⟨ht, hs⟩, Nat.le_refl _, Kd.S_lower (Kd.S_mono (Kd.S_bound h) (fun _ hk => ⟨hk.2.1, hk.2.2.1⟩)) hw⟩
theorem laws_FnExactSortParty.newN {α : Type} {d : Kd α} {e T : Nat} {w W W' : World} {v : Value} {xs : List α} (h : Kd.N d e W' W.heap.size (fun k_ => W.heap.size ≤ k_) v xs) (ht : T ≤ W.heap.size) (hw : w.heap.size ≤ W.heap.size) (hs : W.heap.size ≤ W'.heap.size) : ∃ lo hi : Nat, (T ≤ lo ∧ lo ≤ hi) ∧ hi ≤ W'.heap.size ∧ Kd.N d e W' w.heap.size (fun k_ => lo ≤ k_ ∧ k_ < hi) v xs :=
  ⟨W.heap.size, W'.heap.size, ⟨ht, hs⟩, Nat.le_refl _, Kd.N_lower (Kd.N_mono (Kd.N_bound h) (fun _ hk => hk)) hw⟩
theorem laws_FnExactSortParty.grownN {α : Type} {d : Kd α} {e b lo hi g : Nat} {W W' : World} {v : Value} {xs : List α} (h : Kd.N d e W b (fun k_ => lo ≤ k_ ∧ k_ < hi) v xs) (hg : W.grownBy W' (some g)) (hne : g < lo ∨ hi ≤ g) : Kd.N d e W' b (fun k_ => lo ≤ k_ ∧ k_ < hi) v xs :=
  Kd.N_grown h hg (fun k hk he => by injection he with he; have h1 := hk.1; have h2 := hk.2; omega)
theorem laws_FnExactSortParty.keptN {α : Type} {d : Kd α} {e b lo hi lo' hi' : Nat} {W W' : World} {v : Value} {xs : List α} (h : Kd.N d e W b (fun k_ => lo ≤ k_ ∧ k_ < hi) v xs) (hk : Kept W W' (fun k_ => lo' ≤ k_ ∧ k_ < hi')) (hne : hi ≤ lo' ∨ hi' ≤ lo) : Kd.N d e W' b (fun k_ => lo ≤ k_ ∧ k_ < hi) v xs :=
  Kd.N_kept h hk (fun k h1 h2 => by have h3 := h1.1; have h4 := h1.2; have h5 := h2.1; have h6 := h2.2; omega)
theorem laws_FnExactSortParty.grownR {α : Type} {d : Kd α} {e b lo hi g : Nat} {W W' : World} {v : Value} {xs : List α} (h : d.R e W b (fun k_ => lo ≤ k_ ∧ k_ < hi) v xs) (hg : W.grownBy W' (some g)) (hne : g < lo ∨ hi ≤ g) : d.R e W' b (fun k_ => lo ≤ k_ ∧ k_ < hi) v xs :=
  Kd.R_grown h hg (fun k hk he => by injection he with he; have h1 := hk.1; have h2 := hk.2; omega)
theorem laws_FnExactSortParty.grownS {α : Type} {d : Kd α} {e b lo hi g : Nat} {W W' : World} {v : Value} {xs : List α} (h : Kd.S d e W b (fun k_ => lo ≤ k_ ∧ k_ < hi) v xs) (hg : W.grownBy W' (some g)) (hne : g < lo ∨ hi ≤ g) : Kd.S d e W' b (fun k_ => lo ≤ k_ ∧ k_ < hi) v xs :=
  Kd.S_grown h hg (fun k hk he => by injection he with he; have h1 := hk.1; have h2 := hk.2; omega)
theorem laws_FnExactSortParty.keptR {α : Type} {d : Kd α} {e b lo hi lo' hi' : Nat} {W W' : World} {v : Value} {xs : List α} (h : d.R e W b (fun k_ => lo ≤ k_ ∧ k_ < hi) v xs) (hk : Kept W W' (fun k_ => lo' ≤ k_ ∧ k_ < hi')) (hne : hi ≤ lo' ∨ hi' ≤ lo) : d.R e W' b (fun k_ => lo ≤ k_ ∧ k_ < hi) v xs :=
  Kd.R_kept h hk (fun k h1 h2 => by have h3 := h1.1; have h4 := h1.2; have h5 := h2.1; have h6 := h2.2; omega)
theorem laws_FnExactSortParty.keptS {α : Type} {d : Kd α} {e b lo hi lo' hi' : Nat} {W W' : World} {v : Value} {xs : List α} (h : Kd.S d e W b (fun k_ => lo ≤ k_ ∧ k_ < hi) v xs) (hk : Kept W W' (fun k_ => lo' ≤ k_ ∧ k_ < hi')) (hne : hi ≤ lo' ∨ hi' ≤ lo) : Kd.S d e W' b (fun k_ => lo ≤ k_ ∧ k_ < hi) v xs :=
  Kd.S_kept h hk (fun k h1 h2 => by have h3 := h1.1; have h4 := h1.2; have h5 := h2.1; have h6 := h2.2; omega)
theorem laws_FnExactSortParty.keptB {lo hi g : Nat} {o : Obj} {W W' : World} (h : W.heap[g]? = some o) (hk : Kept W W' (fun k_ => lo ≤ k_ ∧ k_ < hi)) (hne : g < lo ∨ hi ≤ g) : W'.heap[g]? = some o :=
  blk_kept h hk (fun h2 => by have h5 := h2.1; have h6 := h2.2; omega)
theorem laws_FnExactSortParty.grownB {g g' : Nat} {o : Obj} {W W' : World} (h : W.heap[g]? = some o) (hg : W.grownBy W' (some g')) (hne : g ≠ g') : W'.heap[g]? = some o :=
  (hg.block g (blk_lt h) (fun he => hne (by injection he))).trans h
theorem laws_FnExactSortParty.runs {P : Program} {W : World} {g T : Nat} {cur : Array Value} (t : TypeId) (u : Value) (new : List Value) (hb : W.heap[g]? = some (.cells cur T (0, 0))) (hu : u.cells.toList = new) (ht : (P.info? t).map (·.size) = some new.length) (hsz : new.length = cur.size) (h1 : ∀ q ∈ new, q.oneCell' = true) :
    ∃ w1, (Instr.storeAt t (.pointer (some ⟨g, 0, none⟩)) u).run P W = .ok () w1 ∧ w1.heap[g]? = some (.cells new.toArray T (0, 0)) ∧ W.grownBy w1 (some g) := by
  refine ⟨W.setCells g 0 new, run_store_run t u new hb hu ht (by omega) h1, ?_, ?_⟩
  · obtain ⟨cur', c1, c2, c3⟩ := setCells_row new 0 W cur hb (by omega)
    rw [c1]
    rw [List.take_zero, List.nil_append, Nat.zero_add, hsz, List.drop_eq_nil_of_le (by rw [Array.length_toList]; omega), List.append_nil] at c3
    rw [← c3]
  · obtain ⟨s1, s2, s3, s4⟩ := setCells_same g new 0 W
    exact ⟨s1, s2, s3, by rw [s4]; exact Nat.le_refl _, fun k _ hk => setCells_far _ _ k (fun he => hk (by rw [he]))⟩
theorem laws_FnExactSortParty.store {P : Program} {ops : Array Oper} {rest : List Oper} {o : Oper} {a : Act} {Q : Exit → Act → World → Prop} {W : World} (hgd : o.guard = none) (hN : o.dst = none) {t : TypeId} {p : Tmp} {x : Operand} (ho : o.op = .store t (.tmp p) x) (g T : Nat) (cur : Array Value) (u : Value) (new : List Value) (haddr : a.eval (.tmp p) = .pointer (some ⟨g, 0, none⟩)) (hx : a.eval x = u) (hb : W.heap[g]? = some (.cells cur T (0, 0))) (hu : u.cells.toList = new) (ht : (P.info? t).map (·.size) = some new.length) (hsz : new.length = cur.size) (h1 : ∀ q ∈ new, q.oneCell' = true)
    (h : ∀ w1, w1.heap[g]? = some (.cells new.toArray T (0, 0)) → W.grownBy w1 (some g) → wpList P ops Q rest a w1) : wpList P ops Q (o :: rest) a W := by
  obtain ⟨w1, hrun, h2, h3⟩ := laws_FnExactSortParty.runs (P := P) t u new hb hu ht hsz h1
  refine wpList_plain hgd fun K hK => ?_
  unfold Oper.wp execOp
  simp only [ho, haddr, hx, Sem.run_bind, Sem.run_pure, Result.andThen_ok, hrun]
  show K (a.put o.dst undef) _
  rw [hN]
  exact hK _ _ (h w1 h2 h3)
theorem laws_FnExactSortParty.storeK {P : Program} {ops : Array Oper} {o : Oper} {a : Act} {Q : Exit → Act → World → Prop} {Kc : Act → World → Prop} {W : World} (hw : Region.wanted o (yielded ops a.tmps) = true) (hN : o.dst = none) {t : TypeId} {p : Tmp} {x : Operand} (ho : o.op = .store t (.tmp p) x) (g T : Nat) (cur : Array Value) (u : Value) (new : List Value) (haddr : a.eval (.tmp p) = .pointer (some ⟨g, 0, none⟩)) (hx : a.eval x = u) (hb : W.heap[g]? = some (.cells cur T (0, 0))) (hu : u.cells.toList = new) (ht : (P.info? t).map (·.size) = some new.length) (hsz : new.length = cur.size) (h1 : ∀ q ∈ new, q.oneCell' = true)
    (h : ∀ w1, w1.heap[g]? = some (.cells new.toArray T (0, 0)) → W.grownBy w1 (some g) → Kc a w1) : if Region.wanted o (yielded ops a.tmps) = true then Oper.wp P o a W Kc Q else Kc (a.put none undef) W := by
  obtain ⟨w1, hrun, h2, h3⟩ := laws_FnExactSortParty.runs (P := P) t u new hb hu ht hsz h1
  rw [if_pos hw]
  unfold Oper.wp execOp
  simp only [ho, haddr, hx, Sem.run_bind, Sem.run_pure, Result.andThen_ok, hrun]
  show Kc (a.put o.dst undef) _
  rw [hN]
  exact h w1 h2 h3
def laws_FnExactSortParty.f (k : Nat) (l0_0 : List Int) (a0_1 : Int) : Option Bool := (laws_szParty.f l0_0 a0_1 1048576).bind fun b1 => (if b1 < 0 then some true else ((laws_toParty.f k l0_0 a0_1).bind fun b3 => ((spec_SortParty.f k b3.1 b3.2).bind fun b7 => ((laws_toParty.f k l0_0 a0_1).bind fun b12 => ((impl_SortParty.f b12.1 b12.2).bind fun b16 => ((laws_eqParty.f k b16.1 b16.2.1 b7.1 b7.2.1).bind fun b21 => (if b21 = true then (if (b16.2.2 != b7.2.2) = true then none else ((laws_toParty.f k l0_0 a0_1).bind fun b23 => ((laws_eqParty.f k b12.1 b12.2 b23.1 b23.2).bind fun b27 => (if b27 = true then ((laws_markParty.f k b12.1 b12.2 1).bind fun b29 => ((laws_eqParty.f k b16.1 b16.2.1 b7.1 b7.2.1).bind fun b32 => (if b29.1 < 0 then none else (if b32 = true then (if (b16.2.2 != b7.2.2) = true then none else ((laws_markParty.f k b16.1 b16.2.1 1).bind fun b34 => ((laws_heldParty.f k b34.2 b16.2.1 1).bind fun b37 => (if b37 < 0 then none else (if b37 = b34.1 then ((laws_toParty.f k l0_0 a0_1).bind fun b39 => ((impl_SortParty.f b39.1 b39.2).bind fun b43 => ((laws_eqParty.f k b43.1 b43.2.1 b7.1 b7.2.1).bind fun b48 => (if b48 = true then (if (b43.2.2 != b7.2.2) = true then none else ((laws_heldParty.f k b34.2 b16.2.1 1).bind fun b50 => (if b50 < 0 then none else (if b50 = b34.1 then (some true) else none)))) else none)))) else none))))) else none)))) else none)))) else none)))))))
set_option maxHeartbeats 16000000 in
set_option maxRecDepth 100000 in
theorem laws_FnExactSortParty.calls (k : Nat) (A0_0 : Option Addr) (c0_0 : Nat) (l0_0 : List Int) (a0_1 : Int) (r : Bool) (w : World) (hr0_0 : Kd.C (Kd.int .i64) w A0_0 l0_0.length l0_0) (hc0_0 : l0_0.length ≤ c0_0) (h : laws_FnExactSortParty.f k l0_0 a0_1 = some r) :
    Calls Try.prog 14 #[.agg #[.slice A0_0 l0_0.length c0_0, .int .i64 a0_1]] w fun e w' => e = .returned (.bool r) ∧ Below w.heap.size w w' := by
  have hu24 := Try.underlying24
  have hu27 := Try.underlying27
  have HR0_0 := Aside0.mk hr0_0
  have HC0_0 := Aside0.mk hc0_0
  clear hr0_0 hc0_0
  have HB := Aside0.mk (Below.refl w.heap.size w)
  have HT := Aside0.mk (Nat.le_refl w.heap.size)
  have HN := Aside0.mk trivial
  have H := h
  unfold laws_FnExactSortParty.f at H
  clear h
  obtain ⟨t2, AQ1_, H⟩ := Option.bind_eq_some_iff.mp H
  have AQ1 := Aside0.mk AQ1_
  clear AQ1_
  (try dsimp only at AQ1 H)
  by_cases c52 : t2 < 0
  · rw [if_pos c52] at H
    have c52b0 : decide (t2 < 0) = true := decide_eq_true c52
    clear c52
    obtain rfl := Option.some.inj H
    go_enter Try.func14, Try.ntmps14
    try go_wp2_with (first | ((with_reducible refine gate_dst (N := 1) rfl ?_); refine box_event ?hg (N := 1) ?hd (cs := #[.slice A0_0 l0_0.length c0_0, .int .i64 a0_1]) (t := 24) ?hr ?_; (case hd => rfl); (case hg => rfl); (case hr => first | (go_simp; done) | (go_simp; rfl)); intro gb1 hg W1 hbox hb; have nn : w.heap.size ≤ gb1 := Nat.le_trans HT.out (Nat.le_of_eq hg.symm); have GE1 := Aside0.mk (Nat.le_trans (below_size HB.out) (Nat.le_of_eq hg.symm)); replace HB := Aside0.mk (below_step HB.out hb); replace HT := Aside0.mk (Nat.le_trans HT.out hb.size); have BK1 := Aside0.mk hbox; replace HT := Aside0.mk (Nat.succ_le_of_lt (blk_lt hbox)); replace HN := Aside0.mk (And.intro nn HN.out); clear hg hbox hb nn; have cz1_0 : W1.cell? ⟨gb1, 0, none⟩ = some (.slice A0_0 l0_0.length c0_0) := (blk_cell BK1.out 0).trans rfl; have cz1_1 : W1.cell? ⟨gb1, 1, none⟩ = some (.int .i64 a0_1) := (blk_cell BK1.out 1).trans rfl) | ((with_reducible refine gate_dst (N := 16) rfl ?_); refine goesL_ (some 16) rfl rfl Try.func15 (by kernel_rfl) rfl #[.agg #[.slice A0_0 l0_0.length c0_0, .int .i64 a0_1], .int .i64 1048576] rfl (by (try simp only [List.map_toArray, List.map_cons, List.map_nil]); first | done | rfl) ?_; (with_reducible refine (laws_szParty.calls _ _ l0_0 a0_1 1048576 t2 _ (Kd.C_below HR0_0.out HB.out) HC0_0.out AQ1.out).mono ?_); rintro e W2 ⟨rfl, hb⟩; refine ⟨_, rfl, ?_⟩; replace BK1 := Aside0.mk (blk_below (g := gb1) (o := .cells #[.slice A0_0 l0_0.length c0_0, .int .i64 a0_1] 24 (0, 0)) BK1.out hb); replace HB := Aside0.mk (below_step HB.out hb); replace HT := Aside0.mk (Nat.le_trans HT.out hb.size); clear hb; (try clear cz1_0 cz1_1)))
    go_ret
    exact ⟨by first | rfl | (simp; done) | (simp [*]; done), HB.out⟩
  rw [if_neg c52] at H
  have c52b0 : decide (t2 < 0) = false := decide_eq_false c52
  clear c52
  obtain ⟨⟨t4, t5⟩, AQ3_, H⟩ := Option.bind_eq_some_iff.mp H
  have AQ3 := Aside0.mk AQ3_
  clear AQ3_
  (try dsimp only at AQ3 H)
  obtain ⟨⟨t8, t9, t10⟩, AQ7_, H⟩ := Option.bind_eq_some_iff.mp H
  have AQ7 := Aside0.mk AQ7_
  clear AQ7_
  (try dsimp only at AQ7 H)
  obtain ⟨⟨t13, t14⟩, AQ12_, H⟩ := Option.bind_eq_some_iff.mp H
  have AQ12 := Aside0.mk AQ12_
  clear AQ12_
  (try dsimp only at AQ12 H)
  obtain ⟨⟨t17, t18, t19⟩, AQ16_, H⟩ := Option.bind_eq_some_iff.mp H
  have AQ16 := Aside0.mk AQ16_
  clear AQ16_
  (try dsimp only at AQ16 H)
  obtain ⟨t22, AQ21_, H⟩ := Option.bind_eq_some_iff.mp H
  have AQ21 := Aside0.mk AQ21_
  clear AQ21_
  (try dsimp only at AQ21 H)
  rcases t22 with _ | _
  · rw [if_neg (by decide)] at H; cases H
  rw [if_pos rfl] at H
  by_cases c53 : (t19 != t10) = true
  · rw [if_pos c53] at H; cases H
  rw [if_neg c53] at H
  have c53b0 : (t19 != t10) = false := by simpa using c53
  have c53b1 : decide (t19 = t10) = true := by simpa using c53
  have c53b2 : (t19 == t10) = true := by simpa using c53
  clear c53
  obtain ⟨⟨t24, t25⟩, AQ23_, H⟩ := Option.bind_eq_some_iff.mp H
  have AQ23 := Aside0.mk AQ23_
  clear AQ23_
  (try dsimp only at AQ23 H)
  obtain ⟨t28, AQ27_, H⟩ := Option.bind_eq_some_iff.mp H
  have AQ27 := Aside0.mk AQ27_
  clear AQ27_
  (try dsimp only at AQ27 H)
  rcases t28 with _ | _
  · rw [if_neg (by decide)] at H; cases H
  rw [if_pos rfl] at H
  obtain ⟨⟨t30, t31⟩, AQ29_, H⟩ := Option.bind_eq_some_iff.mp H
  have AQ29 := Aside0.mk AQ29_
  clear AQ29_
  (try dsimp only at AQ29 H)
  obtain ⟨t33, AQ32_, H⟩ := Option.bind_eq_some_iff.mp H
  have AQ32 := Aside0.mk AQ32_
  clear AQ32_
  (try dsimp only at AQ32 H)
  by_cases c54 : t30 < 0
  · rw [if_pos c54] at H; cases H
  rw [if_neg c54] at H
  have c54b0 : decide (t30 < 0) = false := decide_eq_false c54
  clear c54
  rcases t33 with _ | _
  · rw [if_neg (by decide)] at H; cases H
  rw [if_pos rfl] at H
  by_cases c55 : (t19 != t10) = true
  · rw [if_pos c55] at H; cases H
  rw [if_neg c55] at H
  have c55b0 : (t19 != t10) = false := by simpa using c55
  have c55b1 : decide (t19 = t10) = true := by simpa using c55
  have c55b2 : (t19 == t10) = true := by simpa using c55
  clear c55
  obtain ⟨⟨t35, t36⟩, AQ34_, H⟩ := Option.bind_eq_some_iff.mp H
  have AQ34 := Aside0.mk AQ34_
  clear AQ34_
  (try dsimp only at AQ34 H)
  obtain ⟨t38, AQ37_, H⟩ := Option.bind_eq_some_iff.mp H
  have AQ37 := Aside0.mk AQ37_
  clear AQ37_
  (try dsimp only at AQ37 H)
  by_cases c56 : t38 < 0
  · rw [if_pos c56] at H; cases H
  rw [if_neg c56] at H
  have c56b0 : decide (t38 < 0) = false := decide_eq_false c56
  clear c56
  by_cases c57 : t38 = t35
  rotate_left
  · rw [if_neg c57] at H; cases H
  rw [if_pos c57] at H
  have c57b0 : (t38 == t35) = true := beq_iff_eq.mpr c57
  have c57b1 : (t38 != t35) = false := bne_eq_false_iff_eq.mpr c57
  clear c57
  obtain ⟨⟨t40, t41⟩, AQ39_, H⟩ := Option.bind_eq_some_iff.mp H
  have AQ39 := Aside0.mk AQ39_
  clear AQ39_
  (try dsimp only at AQ39 H)
  obtain ⟨⟨t44, t45, t46⟩, AQ43_, H⟩ := Option.bind_eq_some_iff.mp H
  have AQ43 := Aside0.mk AQ43_
  clear AQ43_
  (try dsimp only at AQ43 H)
  obtain ⟨t49, AQ48_, H⟩ := Option.bind_eq_some_iff.mp H
  have AQ48 := Aside0.mk AQ48_
  clear AQ48_
  (try dsimp only at AQ48 H)
  rcases t49 with _ | _
  · rw [if_neg (by decide)] at H; cases H
  rw [if_pos rfl] at H
  by_cases c58 : (t46 != t10) = true
  · rw [if_pos c58] at H; cases H
  rw [if_neg c58] at H
  have c58b0 : (t46 != t10) = false := by simpa using c58
  have c58b1 : decide (t46 = t10) = true := by simpa using c58
  have c58b2 : (t46 == t10) = true := by simpa using c58
  clear c58
  obtain ⟨t51, AQ50_, H⟩ := Option.bind_eq_some_iff.mp H
  have AQ50 := Aside0.mk AQ50_
  clear AQ50_
  (try dsimp only at AQ50 H)
  by_cases c59 : t51 < 0
  · rw [if_pos c59] at H; cases H
  rw [if_neg c59] at H
  have c59b0 : decide (t51 < 0) = false := decide_eq_false c59
  clear c59
  by_cases c60 : t51 = t35
  rotate_left
  · rw [if_neg c60] at H; cases H
  rw [if_pos c60] at H
  have c60b0 : (t51 == t35) = true := beq_iff_eq.mpr c60
  have c60b1 : (t51 != t35) = false := bne_eq_false_iff_eq.mpr c60
  clear c60
  obtain rfl := Option.some.inj H
  clear H
  go_enter Try.func14, Try.ntmps14
  try go_wp2_with (first | ((with_reducible refine gate_dst (N := 1) rfl ?_); refine box_event ?hg (N := 1) ?hd (cs := #[.slice A0_0 l0_0.length c0_0, .int .i64 a0_1]) (t := 24) ?hr ?_; (case hd => rfl); (case hg => rfl); (case hr => first | (go_simp; done) | (go_simp; rfl)); intro gb1 hg W3 hbox hb; have nn : w.heap.size ≤ gb1 := Nat.le_trans HT.out (Nat.le_of_eq hg.symm); have GE1 := Aside0.mk (Nat.le_trans (below_size HB.out) (Nat.le_of_eq hg.symm)); replace HB := Aside0.mk (below_step HB.out hb); replace HT := Aside0.mk (Nat.le_trans HT.out hb.size); have BK1 := Aside0.mk hbox; replace HT := Aside0.mk (Nat.succ_le_of_lt (blk_lt hbox)); replace HN := Aside0.mk (And.intro nn HN.out); clear hg hbox hb nn; have cz1_0 : W3.cell? ⟨gb1, 0, none⟩ = some (.slice A0_0 l0_0.length c0_0) := (blk_cell BK1.out 0).trans rfl; have cz1_1 : W3.cell? ⟨gb1, 1, none⟩ = some (.int .i64 a0_1) := (blk_cell BK1.out 1).trans rfl) | ((with_reducible refine gate_dst (N := 16) rfl ?_); refine goesL_ (some 16) rfl rfl Try.func15 (by kernel_rfl) rfl #[.agg #[.slice A0_0 l0_0.length c0_0, .int .i64 a0_1], .int .i64 1048576] rfl (by (try simp only [List.map_toArray, List.map_cons, List.map_nil]); first | done | rfl) ?_; (with_reducible refine (laws_szParty.calls _ _ l0_0 a0_1 1048576 t2 _ (Kd.C_below HR0_0.out HB.out) HC0_0.out AQ1.out).mono ?_); rintro e W4 ⟨rfl, hb⟩; refine ⟨_, rfl, ?_⟩; replace BK1 := Aside0.mk (blk_below (g := gb1) (o := .cells #[.slice A0_0 l0_0.length c0_0, .int .i64 a0_1] 24 (0, 0)) BK1.out hb); replace HB := Aside0.mk (below_step HB.out hb); replace HT := Aside0.mk (Nat.le_trans HT.out hb.size); clear hb; (try clear cz1_0 cz1_1); have cz1_0 : W4.cell? ⟨gb1, 0, none⟩ = some (.slice A0_0 l0_0.length c0_0) := (blk_cell BK1.out 0).trans rfl; have cz1_1 : W4.cell? ⟨gb1, 1, none⟩ = some (.int .i64 a0_1) := (blk_cell BK1.out 1).trans rfl) | ((with_reducible refine gate_dst (N := 21) rfl ?_); refine goesL_ (some 21) rfl rfl Try.func17 (by kernel_rfl) rfl #[.agg #[.slice A0_0 l0_0.length c0_0, .int .i64 a0_1]] rfl (by (try simp only [List.map_toArray, List.map_cons, List.map_nil]); first | done | rfl) ?_; (with_reducible refine (laws_toParty.calls k _ _ l0_0 a0_1 t4 t5 _ (Kd.C_below HR0_0.out HB.out) HC0_0.out AQ3.out).mono ?_); rintro e W5 ⟨v6, rfl, ho6, hb⟩; refine ⟨_, rfl, ?_⟩; obtain ⟨B6, d6, e_⟩ := Kd.R_slice ho6; subst e_; obtain ⟨lo6, hi6, nn, ht_, hO6⟩ := laws_FnExactSortParty.newR ho6 HT.out (below_size HB.out) hb.size; replace BK1 := Aside0.mk (blk_below (g := gb1) (o := .cells #[.slice A0_0 l0_0.length c0_0, .int .i64 a0_1] 24 (0, 0)) BK1.out hb); replace HB := Aside0.mk (below_step HB.out hb); replace HT := Aside0.mk (Nat.le_trans HT.out hb.size); have HO6 := Aside0.mk hO6; replace HT := Aside0.mk ht_; replace HN := Aside0.mk (And.intro nn HN.out); clear ho6 hO6 nn ht_; clear hb; (try clear cz1_0 cz1_1)) | ((with_reducible refine gate_dst (N := 22) rfl ?_); refine goesL_ (some 22) rfl rfl Try.func54 (by kernel_rfl) rfl #[.agg #[.slice B6 t4.length d6, .int .i64 t5]] rfl (by (try simp only [List.map_toArray, List.map_cons, List.map_nil]); first | done | rfl) ?_; (with_reducible refine (spec_SortParty.calls k _ _ t4 t5 t8 t9 t10 _ (Kd.R_reads' HO6.out).2.2 (Kd.R_reads' HO6.out).2.1 AQ7.out).mono ?_); rintro e W6 ⟨v11, rfl, ho11, hb⟩; refine ⟨_, rfl, ?_⟩; obtain ⟨B11, d11, e_⟩ := Kd.R_slice ho11; subst e_; obtain ⟨lo11, hi11, nn, ht_, hO11⟩ := laws_FnExactSortParty.newR ho11 HT.out (below_size HB.out) hb.size; replace HO6 := Aside0.mk (Kd.R_below HO6.out hb); replace BK1 := Aside0.mk (blk_below (g := gb1) (o := .cells #[.slice A0_0 l0_0.length c0_0, .int .i64 a0_1] 24 (0, 0)) BK1.out hb); replace HB := Aside0.mk (below_step HB.out hb); replace HT := Aside0.mk (Nat.le_trans HT.out hb.size); have HO11 := Aside0.mk hO11; replace HT := Aside0.mk ht_; replace HN := Aside0.mk (And.intro nn HN.out); clear ho11 hO11 nn ht_; clear hb; clear HO6) | ((with_reducible refine gate_dst (N := 4) rfl ?_); refine box_event ?hg (N := 4) ?hd (cs := #[.slice none 0 0, .int .i64 0]) (t := 27) ?hr ?_; (case hd => rfl); (case hg => rfl); (case hr => first | (go_simp; done) | (go_simp; rfl)); intro gb2 hg W7 hbox hb; have nn : hi11 ≤ gb2 := Nat.le_trans HT.out (Nat.le_of_eq hg.symm); have GE2 := Aside0.mk (Nat.le_trans (below_size HB.out) (Nat.le_of_eq hg.symm)); replace HO11 := Aside0.mk (Kd.R_below HO11.out hb); replace BK1 := Aside0.mk (blk_below (g := gb1) (o := .cells #[.slice A0_0 l0_0.length c0_0, .int .i64 a0_1] 24 (0, 0)) BK1.out hb); replace HB := Aside0.mk (below_step HB.out hb); replace HT := Aside0.mk (Nat.le_trans HT.out hb.size); have BK2 := Aside0.mk hbox; replace HT := Aside0.mk (Nat.succ_le_of_lt (blk_lt hbox)); replace HN := Aside0.mk (And.intro nn HN.out); clear hg hbox hb nn) | ((with_reducible refine gate_store (t := 27) (p := 4) rfl ?_); refine laws_FnExactSortParty.store rfl rfl rfl gb2 27 #[.slice none 0 0, .int .i64 0] (.agg #[.slice B11 t8.length d11, .int .i64 t9]) [.slice B11 t8.length d11, .int .i64 t9] rfl rfl BK2.out rfl (by kernel_rfl) rfl (by intro q_ hq_; simp only [List.mem_cons, List.not_mem_nil, or_false] at hq_; rcases hq_ with rfl | rfl <;> rfl) ?_; intro W8 hbx hg; replace HO11 := Aside0.mk (laws_FnExactSortParty.grownR HO11.out hg (by have hn_ := HN.out; omega)); replace BK1 := Aside0.mk (laws_FnExactSortParty.grownB BK1.out hg (by have hn_ := HN.out; omega)); replace HB := Aside0.mk (Below.grown HB.out hg (below_size HB.out) (fun k_ hk_ => by injection hk_ with hk_; subst hk_; exact GE2.out)); replace HT := Aside0.mk (Nat.le_trans HT.out hg.size); replace BK2 := Aside0.mk hbx; clear hbx hg; have cz1_0 : W8.cell? ⟨gb1, 0, none⟩ = some (.slice A0_0 l0_0.length c0_0) := (blk_cell BK1.out 0).trans rfl; have cz1_1 : W8.cell? ⟨gb1, 1, none⟩ = some (.int .i64 a0_1) := (blk_cell BK1.out 1).trans rfl) | ((with_reducible refine gate_dst (N := 26) rfl ?_); refine goesL_ (some 26) rfl rfl Try.func17 (by kernel_rfl) rfl #[.agg #[.slice A0_0 l0_0.length c0_0, .int .i64 a0_1]] rfl (by (try simp only [List.map_toArray, List.map_cons, List.map_nil]); first | done | rfl) ?_; (with_reducible refine (laws_toParty.calls k _ _ l0_0 a0_1 t13 t14 _ (Kd.C_below HR0_0.out HB.out) HC0_0.out AQ12.out).mono ?_); rintro e W9 ⟨v15, rfl, ho15, hb⟩; refine ⟨_, rfl, ?_⟩; obtain ⟨B15, d15, e_⟩ := Kd.R_slice ho15; subst e_; obtain ⟨lo15, hi15, nn, ht_, hO15⟩ := laws_FnExactSortParty.newR ho15 HT.out (below_size HB.out) hb.size; replace HO11 := Aside0.mk (Kd.R_below HO11.out hb); replace BK1 := Aside0.mk (blk_below (g := gb1) (o := .cells #[.slice A0_0 l0_0.length c0_0, .int .i64 a0_1] 24 (0, 0)) BK1.out hb); replace BK2 := Aside0.mk (blk_below (g := gb2) (o := .cells #[.slice B11 t8.length d11, .int .i64 t9] 27 (0, 0)) BK2.out hb); replace HB := Aside0.mk (below_step HB.out hb); replace HT := Aside0.mk (Nat.le_trans HT.out hb.size); have HO15 := Aside0.mk hO15; replace HT := Aside0.mk ht_; replace HN := Aside0.mk (And.intro nn HN.out); clear ho15 hO15 nn ht_; clear hb; (try clear cz1_0 cz1_1)) | ((with_reducible refine gate_dst (N := 6) rfl ?_); refine box_event ?hg (N := 6) ?hd (cs := #[.slice none 0 0, .int .i64 0]) (t := 27) ?hr ?_; (case hd => rfl); (case hg => rfl); (case hr => first | (go_simp; done) | (go_simp; rfl)); intro gb3 hg W10 hbox hb; have nn : hi15 ≤ gb3 := Nat.le_trans HT.out (Nat.le_of_eq hg.symm); have GE3 := Aside0.mk (Nat.le_trans (below_size HB.out) (Nat.le_of_eq hg.symm)); replace HO11 := Aside0.mk (Kd.R_below HO11.out hb); replace HO15 := Aside0.mk (Kd.R_below HO15.out hb); replace BK1 := Aside0.mk (blk_below (g := gb1) (o := .cells #[.slice A0_0 l0_0.length c0_0, .int .i64 a0_1] 24 (0, 0)) BK1.out hb); replace BK2 := Aside0.mk (blk_below (g := gb2) (o := .cells #[.slice B11 t8.length d11, .int .i64 t9] 27 (0, 0)) BK2.out hb); replace HB := Aside0.mk (below_step HB.out hb); replace HT := Aside0.mk (Nat.le_trans HT.out hb.size); have BK3 := Aside0.mk hbox; replace HT := Aside0.mk (Nat.succ_le_of_lt (blk_lt hbox)); replace HN := Aside0.mk (And.intro nn HN.out); clear hg hbox hb nn) | ((with_reducible refine gate_store (t := 27) (p := 6) rfl ?_); refine laws_FnExactSortParty.store rfl rfl rfl gb3 27 #[.slice none 0 0, .int .i64 0] (.agg #[.slice B15 t13.length d15, .int .i64 t14]) [.slice B15 t13.length d15, .int .i64 t14] rfl rfl BK3.out rfl (by kernel_rfl) rfl (by intro q_ hq_; simp only [List.mem_cons, List.not_mem_nil, or_false] at hq_; rcases hq_ with rfl | rfl <;> rfl) ?_; intro W11 hbx hg; replace HO11 := Aside0.mk (laws_FnExactSortParty.grownR HO11.out hg (by have hn_ := HN.out; omega)); replace HO15 := Aside0.mk (laws_FnExactSortParty.grownR HO15.out hg (by have hn_ := HN.out; omega)); replace BK1 := Aside0.mk (laws_FnExactSortParty.grownB BK1.out hg (by have hn_ := HN.out; omega)); replace BK2 := Aside0.mk (laws_FnExactSortParty.grownB BK2.out hg (by have hn_ := HN.out; omega)); replace HB := Aside0.mk (Below.grown HB.out hg (below_size HB.out) (fun k_ hk_ => by injection hk_ with hk_; subst hk_; exact GE3.out)); replace HT := Aside0.mk (Nat.le_trans HT.out hg.size); replace BK3 := Aside0.mk hbx; clear hbx hg; have cz3_0 : W11.cell? ⟨gb3, 0, none⟩ = some (.slice B15 t13.length d15) := (blk_cell BK3.out 0).trans rfl; have cz3_1 : W11.cell? ⟨gb3, 1, none⟩ = some (.int .i64 t14) := (blk_cell BK3.out 1).trans rfl) | ((with_reducible refine gate_dst (N := 29) rfl ?_); refine goesL_ (some 29) rfl rfl Try.func55 (by kernel_rfl) rfl #[.agg #[.slice B15 t13.length d15, .int .i64 t14]] rfl (by (try simp only [List.map_toArray, List.map_cons, List.map_nil]); first | done | rfl) ?_; (with_reducible refine (impl_SortParty.calls _ _ t13 t14 t17 t18 t19 _ (Kd.R_reads' HO15.out).2.2 (Kd.R_reads' HO15.out).2.1 AQ16.out).mono ?_); rintro e W12 ⟨v20, rfl, ho20, hb⟩; refine ⟨_, rfl, ?_⟩; obtain ⟨B20, d20, e_⟩ := Kd.R_slice ho20; subst e_; obtain ⟨lo20, hi20, nn, ht_, hO20⟩ := laws_FnExactSortParty.newR ho20 HT.out (below_size HB.out) hb.size; replace HO11 := Aside0.mk (Kd.R_below HO11.out hb); replace HO15 := Aside0.mk (Kd.R_below HO15.out hb); replace BK1 := Aside0.mk (blk_below (g := gb1) (o := .cells #[.slice A0_0 l0_0.length c0_0, .int .i64 a0_1] 24 (0, 0)) BK1.out hb); replace BK2 := Aside0.mk (blk_below (g := gb2) (o := .cells #[.slice B11 t8.length d11, .int .i64 t9] 27 (0, 0)) BK2.out hb); replace BK3 := Aside0.mk (blk_below (g := gb3) (o := .cells #[.slice B15 t13.length d15, .int .i64 t14] 27 (0, 0)) BK3.out hb); replace HB := Aside0.mk (below_step HB.out hb); replace HT := Aside0.mk (Nat.le_trans HT.out hb.size); have HO20 := Aside0.mk hO20; replace HT := Aside0.mk ht_; replace HN := Aside0.mk (And.intro nn HN.out); clear ho20 hO20 nn ht_; clear hb; (try clear cz3_0 cz3_1)) | ((with_reducible refine gate_dst (N := 7) rfl ?_); refine box_event ?hg (N := 7) ?hd (cs := #[.slice none 0 0, .int .i64 0]) (t := 27) ?hr ?_; (case hd => rfl); (case hg => rfl); (case hr => first | (go_simp; done) | (go_simp; rfl)); intro gb4 hg W13 hbox hb; have nn : hi20 ≤ gb4 := Nat.le_trans HT.out (Nat.le_of_eq hg.symm); have GE4 := Aside0.mk (Nat.le_trans (below_size HB.out) (Nat.le_of_eq hg.symm)); replace HO11 := Aside0.mk (Kd.R_below HO11.out hb); replace HO15 := Aside0.mk (Kd.R_below HO15.out hb); replace HO20 := Aside0.mk (Kd.R_below HO20.out hb); replace BK1 := Aside0.mk (blk_below (g := gb1) (o := .cells #[.slice A0_0 l0_0.length c0_0, .int .i64 a0_1] 24 (0, 0)) BK1.out hb); replace BK2 := Aside0.mk (blk_below (g := gb2) (o := .cells #[.slice B11 t8.length d11, .int .i64 t9] 27 (0, 0)) BK2.out hb); replace BK3 := Aside0.mk (blk_below (g := gb3) (o := .cells #[.slice B15 t13.length d15, .int .i64 t14] 27 (0, 0)) BK3.out hb); replace HB := Aside0.mk (below_step HB.out hb); replace HT := Aside0.mk (Nat.le_trans HT.out hb.size); have BK4 := Aside0.mk hbox; replace HT := Aside0.mk (Nat.succ_le_of_lt (blk_lt hbox)); replace HN := Aside0.mk (And.intro nn HN.out); clear hg hbox hb nn) | ((with_reducible refine gate_store (t := 27) (p := 7) rfl ?_); refine laws_FnExactSortParty.store rfl rfl rfl gb4 27 #[.slice none 0 0, .int .i64 0] (.agg #[.slice B20 t17.length d20, .int .i64 t18]) [.slice B20 t17.length d20, .int .i64 t18] rfl rfl BK4.out rfl (by kernel_rfl) rfl (by intro q_ hq_; simp only [List.mem_cons, List.not_mem_nil, or_false] at hq_; rcases hq_ with rfl | rfl <;> rfl) ?_; intro W14 hbx hg; replace HO11 := Aside0.mk (laws_FnExactSortParty.grownR HO11.out hg (by have hn_ := HN.out; omega)); replace HO15 := Aside0.mk (laws_FnExactSortParty.grownR HO15.out hg (by have hn_ := HN.out; omega)); replace HO20 := Aside0.mk (laws_FnExactSortParty.grownR HO20.out hg (by have hn_ := HN.out; omega)); replace BK1 := Aside0.mk (laws_FnExactSortParty.grownB BK1.out hg (by have hn_ := HN.out; omega)); replace BK2 := Aside0.mk (laws_FnExactSortParty.grownB BK2.out hg (by have hn_ := HN.out; omega)); replace BK3 := Aside0.mk (laws_FnExactSortParty.grownB BK3.out hg (by have hn_ := HN.out; omega)); replace HB := Aside0.mk (Below.grown HB.out hg (below_size HB.out) (fun k_ hk_ => by injection hk_ with hk_; subst hk_; exact GE4.out)); replace HT := Aside0.mk (Nat.le_trans HT.out hg.size); replace BK4 := Aside0.mk hbx; clear hbx hg; have cz4_0 : W14.cell? ⟨gb4, 0, none⟩ = some (.slice B20 t17.length d20) := (blk_cell BK4.out 0).trans rfl; have cz4_1 : W14.cell? ⟨gb4, 1, none⟩ = some (.int .i64 t18) := (blk_cell BK4.out 1).trans rfl; have cz2_0 : W14.cell? ⟨gb2, 0, none⟩ = some (.slice B11 t8.length d11) := (blk_cell BK2.out 0).trans rfl; have cz2_1 : W14.cell? ⟨gb2, 1, none⟩ = some (.int .i64 t9) := (blk_cell BK2.out 1).trans rfl) | ((with_reducible refine gate_dst (N := 34) rfl ?_); refine goesL_ (some 34) rfl rfl Try.func19 (by kernel_rfl) rfl #[.agg #[.slice B20 t17.length d20, .int .i64 t18], .agg #[.slice B11 t8.length d11, .int .i64 t9]] rfl (by (try simp only [List.map_toArray, List.map_cons, List.map_nil]); first | done | rfl) ?_; (with_reducible refine (laws_eqParty.calls k _ _ t17 t18 _ _ t8 t9 true _ (Kd.R_reads' HO20.out).2.2 (Kd.R_reads' HO20.out).2.1 (Kd.R_reads' HO11.out).2.2 (Kd.R_reads' HO11.out).2.1 AQ21.out).mono ?_); rintro e W15 ⟨rfl, hb⟩; refine ⟨_, rfl, ?_⟩; replace HO11 := Aside0.mk (Kd.R_below HO11.out hb); replace HO15 := Aside0.mk (Kd.R_below HO15.out hb); replace HO20 := Aside0.mk (Kd.R_below HO20.out hb); replace BK1 := Aside0.mk (blk_below (g := gb1) (o := .cells #[.slice A0_0 l0_0.length c0_0, .int .i64 a0_1] 24 (0, 0)) BK1.out hb); replace BK2 := Aside0.mk (blk_below (g := gb2) (o := .cells #[.slice B11 t8.length d11, .int .i64 t9] 27 (0, 0)) BK2.out hb); replace BK3 := Aside0.mk (blk_below (g := gb3) (o := .cells #[.slice B15 t13.length d15, .int .i64 t14] 27 (0, 0)) BK3.out hb); replace BK4 := Aside0.mk (blk_below (g := gb4) (o := .cells #[.slice B20 t17.length d20, .int .i64 t18] 27 (0, 0)) BK4.out hb); replace HB := Aside0.mk (below_step HB.out hb); replace HT := Aside0.mk (Nat.le_trans HT.out hb.size); clear hb; (try clear cz4_0 cz4_1 cz2_0 cz2_1)))
  have hb : Below W15.heap.size W15 W15.drew := below_drew (Below.refl _ _)
  replace HO11 := Aside0.mk (Kd.R_below HO11.out hb)
  replace HO15 := Aside0.mk (Kd.R_below HO15.out hb)
  replace HO20 := Aside0.mk (Kd.R_below HO20.out hb)
  replace BK1 := Aside0.mk (blk_below (g := gb1) (o := .cells #[.slice A0_0 l0_0.length c0_0, .int .i64 a0_1] 24 (0, 0)) BK1.out hb)
  replace BK2 := Aside0.mk (blk_below (g := gb2) (o := .cells #[.slice B11 t8.length d11, .int .i64 t9] 27 (0, 0)) BK2.out hb)
  replace BK3 := Aside0.mk (blk_below (g := gb3) (o := .cells #[.slice B15 t13.length d15, .int .i64 t14] 27 (0, 0)) BK3.out hb)
  replace BK4 := Aside0.mk (blk_below (g := gb4) (o := .cells #[.slice B20 t17.length d20, .int .i64 t18] 27 (0, 0)) BK4.out hb)
  replace HB := Aside0.mk (below_step HB.out hb)
  replace HT := Aside0.mk (Nat.le_trans HT.out hb.size)
  clear hb
  refine start_ (n := 5) (S := fun w' => w'.cell? ⟨gb3, 0, none⟩ = some (.slice B15 t13.length d15) ∧ w'.cell? ⟨gb3, 1, none⟩ = some (.int .i64 t14) ∧ w'.cell? ⟨gb1, 0, none⟩ = some (.slice A0_0 l0_0.length c0_0) ∧ w'.cell? ⟨gb1, 1, none⟩ = some (.int .i64 a0_1)) (ds := []) #[false, false, false, false, false] (by kernel_rfl) rfl rfl ⟨(blk_cell BK3.out 0).trans rfl, (blk_cell BK3.out 1).trans rfl, (blk_cell BK1.out 0).trans rfl, (blk_cell BK1.out 1).trans rfl⟩ (fun hHeld => ?_)
  generalize W15.drew = W16 at HO11 HO15 HO20 BK1 BK2 BK3 BK4 HB HT hHeld ⊢
  refine take_ (i := 0) (N := some 41) (v := ?_) (a' := ?_) #[true, false, false, false, false] rfl rfl (by kernel_rfl) (fun _ _ _ h => h) (Or.inl ⟨by rfl, ?_⟩) hHeld ?_ ?_
  rotate_left
  · rintro w' ⟨s0, s1, s2, s3⟩
    go_simp
    with_reducible rfl
  rotate_left
  · simp only [Act.put, List.setIfInBounds_toArray, List.set_cons_zero, List.set_cons_succ, i64_w, i32_w]
    rfl
  refine take_ (i := 1) (N := some 42) (v := ?_) (a' := ?_) #[true, true, false, false, false] rfl rfl (by kernel_rfl) (fun _ _ _ h => h) (Or.inl ⟨by rfl, ?_⟩) hHeld ?_ ?_
  rotate_left
  · rintro w' ⟨s0, s1, s2, s3⟩
    go_simp
    with_reducible rfl
  rotate_left
  · simp only [Act.put, List.setIfInBounds_toArray, List.set_cons_zero, List.set_cons_succ, i64_w, i32_w]
    rfl
  refine one_ (i := 2) (N := some 43) #[true, true, true, false, false] rfl rfl (by kernel_rfl) (by decide) (fun K hK => ?_)
  refine goes_ Try.func17 (by kernel_rfl) rfl #[.agg #[.slice A0_0 l0_0.length c0_0, .int .i64 a0_1]] (by rfl) rfl rfl (by (try simp only [List.map_toArray, List.map_cons, List.map_nil]); first | done | rfl) ?_
  with_reducible refine (laws_toParty.calls k _ _ l0_0 a0_1 t24 t25 _ (Kd.C_below HR0_0.out HB.out) HC0_0.out AQ23.out).mono ?_
  rintro e W17 ⟨v26, rfl, ho26, hb⟩
  refine ⟨_, rfl, ?_⟩
  obtain ⟨B26, d26, e_⟩ := Kd.R_slice ho26
  subst e_
  obtain ⟨lo26, hi26, nn, ht_, hO26⟩ := laws_FnExactSortParty.newR ho26 HT.out (below_size HB.out) hb.size
  replace HO11 := Aside0.mk (Kd.R_below HO11.out hb)
  replace HO15 := Aside0.mk (Kd.R_below HO15.out hb)
  replace HO20 := Aside0.mk (Kd.R_below HO20.out hb)
  replace BK1 := Aside0.mk (blk_below (g := gb1) (o := .cells #[.slice A0_0 l0_0.length c0_0, .int .i64 a0_1] 24 (0, 0)) BK1.out hb)
  replace BK2 := Aside0.mk (blk_below (g := gb2) (o := .cells #[.slice B11 t8.length d11, .int .i64 t9] 27 (0, 0)) BK2.out hb)
  replace BK3 := Aside0.mk (blk_below (g := gb3) (o := .cells #[.slice B15 t13.length d15, .int .i64 t14] 27 (0, 0)) BK3.out hb)
  replace BK4 := Aside0.mk (blk_below (g := gb4) (o := .cells #[.slice B20 t17.length d20, .int .i64 t18] 27 (0, 0)) BK4.out hb)
  replace HB := Aside0.mk (below_step HB.out hb)
  replace HT := Aside0.mk (Nat.le_trans HT.out hb.size)
  have HO26 := Aside0.mk hO26
  replace HT := Aside0.mk ht_
  replace HN := Aside0.mk (And.intro nn HN.out)
  clear ho26 hO26 nn ht_
  clear hb
  refine hK.out _ _ ⟨(blk_cell BK3.out 0).trans rfl, (blk_cell BK3.out 1).trans rfl, (blk_cell BK1.out 0).trans rfl, (blk_cell BK1.out 1).trans rfl⟩ (fun hHeld => ?_)
  clear hK K
  refine norm_ (a' := ?_) ?_ ?_
  rotate_left
  · show Act.put _ (some 43) _ = _
    simp only [Act.put, List.setIfInBounds_toArray, List.set_cons_zero, List.set_cons_succ, i64_w, i32_w]
    rfl
  refine one_ (i := 3) (N := some 44) #[true, true, true, true, false] rfl rfl (by kernel_rfl) (by decide) (fun K hK => ?_)
  refine goes_ Try.func19 (by kernel_rfl) rfl #[.agg #[.slice B15 t13.length d15, .int .i64 t14], .agg #[.slice B26 t24.length d26, .int .i64 t25]] (by rfl) rfl rfl (by (try simp only [List.map_toArray, List.map_cons, List.map_nil]); first | done | rfl) ?_
  with_reducible refine (laws_eqParty.calls k _ _ t13 t14 _ _ t24 t25 true _ (Kd.R_reads' HO15.out).2.2 (Kd.R_reads' HO15.out).2.1 (Kd.R_reads' HO26.out).2.2 (Kd.R_reads' HO26.out).2.1 AQ27.out).mono ?_
  rintro e W18 ⟨rfl, hb⟩
  refine ⟨_, rfl, ?_⟩
  replace HO11 := Aside0.mk (Kd.R_below HO11.out hb)
  replace HO15 := Aside0.mk (Kd.R_below HO15.out hb)
  replace HO20 := Aside0.mk (Kd.R_below HO20.out hb)
  replace HO26 := Aside0.mk (Kd.R_below HO26.out hb)
  replace BK1 := Aside0.mk (blk_below (g := gb1) (o := .cells #[.slice A0_0 l0_0.length c0_0, .int .i64 a0_1] 24 (0, 0)) BK1.out hb)
  replace BK2 := Aside0.mk (blk_below (g := gb2) (o := .cells #[.slice B11 t8.length d11, .int .i64 t9] 27 (0, 0)) BK2.out hb)
  replace BK3 := Aside0.mk (blk_below (g := gb3) (o := .cells #[.slice B15 t13.length d15, .int .i64 t14] 27 (0, 0)) BK3.out hb)
  replace BK4 := Aside0.mk (blk_below (g := gb4) (o := .cells #[.slice B20 t17.length d20, .int .i64 t18] 27 (0, 0)) BK4.out hb)
  replace HB := Aside0.mk (below_step HB.out hb)
  replace HT := Aside0.mk (Nat.le_trans HT.out hb.size)
  clear hb
  clear HO26
  refine hK.out _ _ ⟨(blk_cell BK3.out 0).trans rfl, (blk_cell BK3.out 1).trans rfl, (blk_cell BK1.out 0).trans rfl, (blk_cell BK1.out 1).trans rfl⟩ (fun hHeld => ?_)
  clear hK K
  refine norm_ (a' := ?_) ?_ ?_
  rotate_left
  · show Act.put _ (some 44) _ = _
    simp only [Act.put, List.setIfInBounds_toArray, List.set_cons_zero, List.set_cons_succ, i64_w, i32_w]
    rfl
  refine pure_ (i := 4) (N := some 45) (v := ?_) (a' := ?_) #[true, true, true, true, true] rfl rfl (by kernel_rfl) (fun _ _ _ h => h) (Or.inl ⟨by rfl, ?_⟩) ?_ ?_
  rotate_left
  · intro w'
    go_simp
    with_reducible rfl
  rotate_left
  · simp only [Act.put, List.setIfInBounds_toArray, List.set_cons_zero, List.set_cons_succ, i64_w, i32_w]
    rfl
  refine done_ (by kernel_rfl) ?_
  have cz3_0 : W18.cell? ⟨gb3, 0, none⟩ = some (.slice B15 t13.length d15) := (blk_cell BK3.out 0).trans rfl
  have cz3_1 : W18.cell? ⟨gb3, 1, none⟩ = some (.int .i64 t14) := (blk_cell BK3.out 1).trans rfl
  try go_wp2_with (first | ((with_reducible refine gate_dst (N := 48) rfl ?_); refine goesL_ (some 48) rfl rfl Try.func26 (by kernel_rfl) rfl #[.agg #[.slice B15 t13.length d15, .int .i64 t14], .int .i64 1] rfl (by (try simp only [List.map_toArray, List.map_cons, List.map_nil]); first | done | rfl) ?_; (with_reducible refine (laws_markParty.calls k (fun k_ => lo15 ≤ k_ ∧ k_ < hi15) (.slice B15 t13.length d15) t13 t14 1 t30 t31 w _ HB.out HO15.out AQ29.out).mono ?_); rintro e W19 ⟨rfl, hy0, hb, hkp⟩; refine ⟨_, rfl, ?_⟩; replace HO11 := Aside0.mk (laws_FnExactSortParty.keptR HO11.out hkp (by have hn_ := HN.out; omega)); replace HO20 := Aside0.mk (laws_FnExactSortParty.keptR HO20.out hkp (by have hn_ := HN.out; omega)); replace BK1 := Aside0.mk (laws_FnExactSortParty.keptB BK1.out hkp (by have hn_ := HN.out; omega)); replace BK2 := Aside0.mk (laws_FnExactSortParty.keptB BK2.out hkp (by have hn_ := HN.out; omega)); replace BK3 := Aside0.mk (laws_FnExactSortParty.keptB BK3.out hkp (by have hn_ := HN.out; omega)); replace BK4 := Aside0.mk (laws_FnExactSortParty.keptB BK4.out hkp (by have hn_ := HN.out; omega)); replace HO15 := Aside0.mk (Kd.R_reok rfl hy0 (fun k_ e_ => HO15.out.1 k_ e_)); replace HB := Aside0.mk hb; replace HT := Aside0.mk (Nat.le_trans HT.out hkp.1); clear hy0 hb hkp; have hl_ := (Kd.R_reads' HO15.out).1; rw [hl_] at HO15 BK3; (try simp only [hl_]); clear hl_; clear HO15; (try clear cz3_0 cz3_1); have cz4_0 : W19.cell? ⟨gb4, 0, none⟩ = some (.slice B20 t17.length d20) := (blk_cell BK4.out 0).trans rfl; have cz4_1 : W19.cell? ⟨gb4, 1, none⟩ = some (.int .i64 t18) := (blk_cell BK4.out 1).trans rfl; have cz2_0 : W19.cell? ⟨gb2, 0, none⟩ = some (.slice B11 t8.length d11) := (blk_cell BK2.out 0).trans rfl; have cz2_1 : W19.cell? ⟨gb2, 1, none⟩ = some (.int .i64 t9) := (blk_cell BK2.out 1).trans rfl) | ((with_reducible refine gate_dst (N := 54) rfl ?_); (refine gate_guard (by rfl) ?_; dsimp only); refine goesL_ (some 54) rfl rfl Try.func19 (by kernel_rfl) rfl #[.agg #[.slice B20 t17.length d20, .int .i64 t18], .agg #[.slice B11 t8.length d11, .int .i64 t9]] rfl (by (try simp only [List.map_toArray, List.map_cons, List.map_nil]); first | done | rfl) ?_; (with_reducible refine (laws_eqParty.calls k _ _ t17 t18 _ _ t8 t9 true _ (Kd.R_reads' HO20.out).2.2 (Kd.R_reads' HO20.out).2.1 (Kd.R_reads' HO11.out).2.2 (Kd.R_reads' HO11.out).2.1 AQ32.out).mono ?_); rintro e W20 ⟨rfl, hb⟩; refine ⟨_, rfl, ?_⟩; replace HO11 := Aside0.mk (Kd.R_below HO11.out hb); replace HO20 := Aside0.mk (Kd.R_below HO20.out hb); replace BK1 := Aside0.mk (blk_below (g := gb1) (o := .cells #[.slice A0_0 l0_0.length c0_0, .int .i64 a0_1] 24 (0, 0)) BK1.out hb); replace BK2 := Aside0.mk (blk_below (g := gb2) (o := .cells #[.slice B11 t8.length d11, .int .i64 t9] 27 (0, 0)) BK2.out hb); replace BK3 := Aside0.mk (blk_below (g := gb3) (o := .cells #[.slice B15 t31.length d15, .int .i64 t14] 27 (0, 0)) BK3.out hb); replace BK4 := Aside0.mk (blk_below (g := gb4) (o := .cells #[.slice B20 t17.length d20, .int .i64 t18] 27 (0, 0)) BK4.out hb); replace HB := Aside0.mk (below_step HB.out hb); replace HT := Aside0.mk (Nat.le_trans HT.out hb.size); clear hb; (try clear cz4_0 cz4_1 cz2_0 cz2_1); have cz4_0 : W20.cell? ⟨gb4, 0, none⟩ = some (.slice B20 t17.length d20) := (blk_cell BK4.out 0).trans rfl; have cz4_1 : W20.cell? ⟨gb4, 1, none⟩ = some (.int .i64 t18) := (blk_cell BK4.out 1).trans rfl) | ((with_reducible refine gate_dst (N := 64) rfl ?_); refine goesL_ (some 64) rfl rfl Try.func26 (by kernel_rfl) rfl #[.agg #[.slice B20 t17.length d20, .int .i64 t18], .int .i64 1] rfl (by (try simp only [List.map_toArray, List.map_cons, List.map_nil]); first | done | rfl) ?_; (with_reducible refine (laws_markParty.calls k (fun k_ => lo20 ≤ k_ ∧ k_ < hi20) (.slice B20 t17.length d20) t17 t18 1 t35 t36 w _ HB.out HO20.out AQ34.out).mono ?_); rintro e W21 ⟨rfl, hy0, hb, hkp⟩; refine ⟨_, rfl, ?_⟩; replace HO11 := Aside0.mk (laws_FnExactSortParty.keptR HO11.out hkp (by have hn_ := HN.out; omega)); replace BK1 := Aside0.mk (laws_FnExactSortParty.keptB BK1.out hkp (by have hn_ := HN.out; omega)); replace BK2 := Aside0.mk (laws_FnExactSortParty.keptB BK2.out hkp (by have hn_ := HN.out; omega)); replace BK3 := Aside0.mk (laws_FnExactSortParty.keptB BK3.out hkp (by have hn_ := HN.out; omega)); replace BK4 := Aside0.mk (laws_FnExactSortParty.keptB BK4.out hkp (by have hn_ := HN.out; omega)); replace HO20 := Aside0.mk (Kd.R_reok rfl hy0 (fun k_ e_ => HO20.out.1 k_ e_)); replace HB := Aside0.mk hb; replace HT := Aside0.mk (Nat.le_trans HT.out hkp.1); clear hy0 hb hkp; have hl_ := (Kd.R_reads' HO20.out).1; rw [hl_] at HO20 BK4; (try simp only [hl_]); clear hl_; (try clear cz4_0 cz4_1); have cz4_0 : W21.cell? ⟨gb4, 0, none⟩ = some (.slice B20 t36.length d20) := (blk_cell BK4.out 0).trans rfl; have cz4_1 : W21.cell? ⟨gb4, 1, none⟩ = some (.int .i64 t18) := (blk_cell BK4.out 1).trans rfl) | ((with_reducible refine gate_dst (N := 67) rfl ?_); refine goesL_ (some 67) rfl rfl Try.func27 (by kernel_rfl) rfl #[.agg #[.slice B20 t36.length d20, .int .i64 t18], .int .i64 1] rfl (by (try simp only [List.map_toArray, List.map_cons, List.map_nil]); first | done | rfl) ?_; (with_reducible refine (laws_heldParty.calls k _ _ t36 t18 1 t38 _ (Kd.R_reads' HO20.out).2.2 (Kd.R_reads' HO20.out).2.1 AQ37.out).mono ?_); rintro e W22 ⟨rfl, hb⟩; refine ⟨_, rfl, ?_⟩; replace HO11 := Aside0.mk (Kd.R_below HO11.out hb); replace HO20 := Aside0.mk (Kd.R_below HO20.out hb); replace BK1 := Aside0.mk (blk_below (g := gb1) (o := .cells #[.slice A0_0 l0_0.length c0_0, .int .i64 a0_1] 24 (0, 0)) BK1.out hb); replace BK2 := Aside0.mk (blk_below (g := gb2) (o := .cells #[.slice B11 t8.length d11, .int .i64 t9] 27 (0, 0)) BK2.out hb); replace BK3 := Aside0.mk (blk_below (g := gb3) (o := .cells #[.slice B15 t31.length d15, .int .i64 t14] 27 (0, 0)) BK3.out hb); replace BK4 := Aside0.mk (blk_below (g := gb4) (o := .cells #[.slice B20 t36.length d20, .int .i64 t18] 27 (0, 0)) BK4.out hb); replace HB := Aside0.mk (below_step HB.out hb); replace HT := Aside0.mk (Nat.le_trans HT.out hb.size); clear hb; (try clear cz4_0 cz4_1); have cz1_0 : W22.cell? ⟨gb1, 0, none⟩ = some (.slice A0_0 l0_0.length c0_0) := (blk_cell BK1.out 0).trans rfl; have cz1_1 : W22.cell? ⟨gb1, 1, none⟩ = some (.int .i64 a0_1) := (blk_cell BK1.out 1).trans rfl) | ((with_reducible refine gate_dst (N := 75) rfl ?_); refine goesL_ (some 75) rfl rfl Try.func17 (by kernel_rfl) rfl #[.agg #[.slice A0_0 l0_0.length c0_0, .int .i64 a0_1]] rfl (by (try simp only [List.map_toArray, List.map_cons, List.map_nil]); first | done | rfl) ?_; (with_reducible refine (laws_toParty.calls k _ _ l0_0 a0_1 t40 t41 _ (Kd.C_below HR0_0.out HB.out) HC0_0.out AQ39.out).mono ?_); rintro e W23 ⟨v42, rfl, ho42, hb⟩; refine ⟨_, rfl, ?_⟩; obtain ⟨B42, d42, e_⟩ := Kd.R_slice ho42; subst e_; obtain ⟨lo42, hi42, nn, ht_, hO42⟩ := laws_FnExactSortParty.newR ho42 HT.out (below_size HB.out) hb.size; replace HO11 := Aside0.mk (Kd.R_below HO11.out hb); replace HO20 := Aside0.mk (Kd.R_below HO20.out hb); replace BK1 := Aside0.mk (blk_below (g := gb1) (o := .cells #[.slice A0_0 l0_0.length c0_0, .int .i64 a0_1] 24 (0, 0)) BK1.out hb); replace BK2 := Aside0.mk (blk_below (g := gb2) (o := .cells #[.slice B11 t8.length d11, .int .i64 t9] 27 (0, 0)) BK2.out hb); replace BK3 := Aside0.mk (blk_below (g := gb3) (o := .cells #[.slice B15 t31.length d15, .int .i64 t14] 27 (0, 0)) BK3.out hb); replace BK4 := Aside0.mk (blk_below (g := gb4) (o := .cells #[.slice B20 t36.length d20, .int .i64 t18] 27 (0, 0)) BK4.out hb); replace HB := Aside0.mk (below_step HB.out hb); replace HT := Aside0.mk (Nat.le_trans HT.out hb.size); have HO42 := Aside0.mk hO42; replace HT := Aside0.mk ht_; replace HN := Aside0.mk (And.intro nn HN.out); clear ho42 hO42 nn ht_; clear hb; (try clear cz1_0 cz1_1)) | ((with_reducible refine gate_dst (N := 76) rfl ?_); refine goesL_ (some 76) rfl rfl Try.func55 (by kernel_rfl) rfl #[.agg #[.slice B42 t40.length d42, .int .i64 t41]] rfl (by (try simp only [List.map_toArray, List.map_cons, List.map_nil]); first | done | rfl) ?_; (with_reducible refine (impl_SortParty.calls _ _ t40 t41 t44 t45 t46 _ (Kd.R_reads' HO42.out).2.2 (Kd.R_reads' HO42.out).2.1 AQ43.out).mono ?_); rintro e W24 ⟨v47, rfl, ho47, hb⟩; refine ⟨_, rfl, ?_⟩; obtain ⟨B47, d47, e_⟩ := Kd.R_slice ho47; subst e_; obtain ⟨lo47, hi47, nn, ht_, hO47⟩ := laws_FnExactSortParty.newR ho47 HT.out (below_size HB.out) hb.size; replace HO11 := Aside0.mk (Kd.R_below HO11.out hb); replace HO20 := Aside0.mk (Kd.R_below HO20.out hb); replace HO42 := Aside0.mk (Kd.R_below HO42.out hb); replace BK1 := Aside0.mk (blk_below (g := gb1) (o := .cells #[.slice A0_0 l0_0.length c0_0, .int .i64 a0_1] 24 (0, 0)) BK1.out hb); replace BK2 := Aside0.mk (blk_below (g := gb2) (o := .cells #[.slice B11 t8.length d11, .int .i64 t9] 27 (0, 0)) BK2.out hb); replace BK3 := Aside0.mk (blk_below (g := gb3) (o := .cells #[.slice B15 t31.length d15, .int .i64 t14] 27 (0, 0)) BK3.out hb); replace BK4 := Aside0.mk (blk_below (g := gb4) (o := .cells #[.slice B20 t36.length d20, .int .i64 t18] 27 (0, 0)) BK4.out hb); replace HB := Aside0.mk (below_step HB.out hb); replace HT := Aside0.mk (Nat.le_trans HT.out hb.size); have HO47 := Aside0.mk hO47; replace HT := Aside0.mk ht_; replace HN := Aside0.mk (And.intro nn HN.out); clear ho47 hO47 nn ht_; clear hb; clear HO42) | ((with_reducible refine gate_dst (N := 12) rfl ?_); refine box_event ?hg (N := 12) ?hd (cs := #[.slice none 0 0, .int .i64 0]) (t := 27) ?hr ?_; (case hd => rfl); (case hg => rfl); (case hr => first | (go_simp; done) | (go_simp; rfl)); intro gb5 hg W25 hbox hb; have nn : hi47 ≤ gb5 := Nat.le_trans HT.out (Nat.le_of_eq hg.symm); have GE5 := Aside0.mk (Nat.le_trans (below_size HB.out) (Nat.le_of_eq hg.symm)); replace HO11 := Aside0.mk (Kd.R_below HO11.out hb); replace HO20 := Aside0.mk (Kd.R_below HO20.out hb); replace HO47 := Aside0.mk (Kd.R_below HO47.out hb); replace BK1 := Aside0.mk (blk_below (g := gb1) (o := .cells #[.slice A0_0 l0_0.length c0_0, .int .i64 a0_1] 24 (0, 0)) BK1.out hb); replace BK2 := Aside0.mk (blk_below (g := gb2) (o := .cells #[.slice B11 t8.length d11, .int .i64 t9] 27 (0, 0)) BK2.out hb); replace BK3 := Aside0.mk (blk_below (g := gb3) (o := .cells #[.slice B15 t31.length d15, .int .i64 t14] 27 (0, 0)) BK3.out hb); replace BK4 := Aside0.mk (blk_below (g := gb4) (o := .cells #[.slice B20 t36.length d20, .int .i64 t18] 27 (0, 0)) BK4.out hb); replace HB := Aside0.mk (below_step HB.out hb); replace HT := Aside0.mk (Nat.le_trans HT.out hb.size); have BK5 := Aside0.mk hbox; replace HT := Aside0.mk (Nat.succ_le_of_lt (blk_lt hbox)); replace HN := Aside0.mk (And.intro nn HN.out); clear hg hbox hb nn) | ((with_reducible refine gate_store (t := 27) (p := 12) rfl ?_); refine laws_FnExactSortParty.store rfl rfl rfl gb5 27 #[.slice none 0 0, .int .i64 0] (.agg #[.slice B47 t44.length d47, .int .i64 t45]) [.slice B47 t44.length d47, .int .i64 t45] rfl rfl BK5.out rfl (by kernel_rfl) rfl (by intro q_ hq_; simp only [List.mem_cons, List.not_mem_nil, or_false] at hq_; rcases hq_ with rfl | rfl <;> rfl) ?_; intro W26 hbx hg; replace HO11 := Aside0.mk (laws_FnExactSortParty.grownR HO11.out hg (by have hn_ := HN.out; omega)); replace HO20 := Aside0.mk (laws_FnExactSortParty.grownR HO20.out hg (by have hn_ := HN.out; omega)); replace HO47 := Aside0.mk (laws_FnExactSortParty.grownR HO47.out hg (by have hn_ := HN.out; omega)); replace BK1 := Aside0.mk (laws_FnExactSortParty.grownB BK1.out hg (by have hn_ := HN.out; omega)); replace BK2 := Aside0.mk (laws_FnExactSortParty.grownB BK2.out hg (by have hn_ := HN.out; omega)); replace BK3 := Aside0.mk (laws_FnExactSortParty.grownB BK3.out hg (by have hn_ := HN.out; omega)); replace BK4 := Aside0.mk (laws_FnExactSortParty.grownB BK4.out hg (by have hn_ := HN.out; omega)); replace HB := Aside0.mk (Below.grown HB.out hg (below_size HB.out) (fun k_ hk_ => by injection hk_ with hk_; subst hk_; exact GE5.out)); replace HT := Aside0.mk (Nat.le_trans HT.out hg.size); replace BK5 := Aside0.mk hbx; clear hbx hg; have cz5_0 : W26.cell? ⟨gb5, 0, none⟩ = some (.slice B47 t44.length d47) := (blk_cell BK5.out 0).trans rfl; have cz5_1 : W26.cell? ⟨gb5, 1, none⟩ = some (.int .i64 t45) := (blk_cell BK5.out 1).trans rfl; have cz2_0 : W26.cell? ⟨gb2, 0, none⟩ = some (.slice B11 t8.length d11) := (blk_cell BK2.out 0).trans rfl; have cz2_1 : W26.cell? ⟨gb2, 1, none⟩ = some (.int .i64 t9) := (blk_cell BK2.out 1).trans rfl) | ((with_reducible refine gate_dst (N := 81) rfl ?_); refine goesL_ (some 81) rfl rfl Try.func19 (by kernel_rfl) rfl #[.agg #[.slice B47 t44.length d47, .int .i64 t45], .agg #[.slice B11 t8.length d11, .int .i64 t9]] rfl (by (try simp only [List.map_toArray, List.map_cons, List.map_nil]); first | done | rfl) ?_; (with_reducible refine (laws_eqParty.calls k _ _ t44 t45 _ _ t8 t9 true _ (Kd.R_reads' HO47.out).2.2 (Kd.R_reads' HO47.out).2.1 (Kd.R_reads' HO11.out).2.2 (Kd.R_reads' HO11.out).2.1 AQ48.out).mono ?_); rintro e W27 ⟨rfl, hb⟩; refine ⟨_, rfl, ?_⟩; replace HO11 := Aside0.mk (Kd.R_below HO11.out hb); replace HO20 := Aside0.mk (Kd.R_below HO20.out hb); replace HO47 := Aside0.mk (Kd.R_below HO47.out hb); replace BK1 := Aside0.mk (blk_below (g := gb1) (o := .cells #[.slice A0_0 l0_0.length c0_0, .int .i64 a0_1] 24 (0, 0)) BK1.out hb); replace BK2 := Aside0.mk (blk_below (g := gb2) (o := .cells #[.slice B11 t8.length d11, .int .i64 t9] 27 (0, 0)) BK2.out hb); replace BK3 := Aside0.mk (blk_below (g := gb3) (o := .cells #[.slice B15 t31.length d15, .int .i64 t14] 27 (0, 0)) BK3.out hb); replace BK4 := Aside0.mk (blk_below (g := gb4) (o := .cells #[.slice B20 t36.length d20, .int .i64 t18] 27 (0, 0)) BK4.out hb); replace BK5 := Aside0.mk (blk_below (g := gb5) (o := .cells #[.slice B47 t44.length d47, .int .i64 t45] 27 (0, 0)) BK5.out hb); replace HB := Aside0.mk (below_step HB.out hb); replace HT := Aside0.mk (Nat.le_trans HT.out hb.size); clear hb; clear HO11 HO47; (try clear cz5_0 cz5_1 cz2_0 cz2_1); have cz4_0 : W27.cell? ⟨gb4, 0, none⟩ = some (.slice B20 t36.length d20) := (blk_cell BK4.out 0).trans rfl; have cz4_1 : W27.cell? ⟨gb4, 1, none⟩ = some (.int .i64 t18) := (blk_cell BK4.out 1).trans rfl) | ((with_reducible refine gate_dst (N := 90) rfl ?_); refine goesL_ (some 90) rfl rfl Try.func27 (by kernel_rfl) rfl #[.agg #[.slice B20 t36.length d20, .int .i64 t18], .int .i64 1] rfl (by (try simp only [List.map_toArray, List.map_cons, List.map_nil]); first | done | rfl) ?_; (with_reducible refine (laws_heldParty.calls k _ _ t36 t18 1 t51 _ (Kd.R_reads' HO20.out).2.2 (Kd.R_reads' HO20.out).2.1 AQ50.out).mono ?_); rintro e W28 ⟨rfl, hb⟩; refine ⟨_, rfl, ?_⟩; replace HO20 := Aside0.mk (Kd.R_below HO20.out hb); replace BK1 := Aside0.mk (blk_below (g := gb1) (o := .cells #[.slice A0_0 l0_0.length c0_0, .int .i64 a0_1] 24 (0, 0)) BK1.out hb); replace BK2 := Aside0.mk (blk_below (g := gb2) (o := .cells #[.slice B11 t8.length d11, .int .i64 t9] 27 (0, 0)) BK2.out hb); replace BK3 := Aside0.mk (blk_below (g := gb3) (o := .cells #[.slice B15 t31.length d15, .int .i64 t14] 27 (0, 0)) BK3.out hb); replace BK4 := Aside0.mk (blk_below (g := gb4) (o := .cells #[.slice B20 t36.length d20, .int .i64 t18] 27 (0, 0)) BK4.out hb); replace BK5 := Aside0.mk (blk_below (g := gb5) (o := .cells #[.slice B47 t44.length d47, .int .i64 t45] 27 (0, 0)) BK5.out hb); replace HB := Aside0.mk (below_step HB.out hb); replace HT := Aside0.mk (Nat.le_trans HT.out hb.size); clear hb; clear HO20; (try clear cz4_0 cz4_1)))
  go_ret
  exact ⟨by first | rfl | (simp; done) | (simp [*]; done), HB.out⟩

end Go.Proofs.Ytlbmbofhbficgaa.G
