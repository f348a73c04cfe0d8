-- Laid by wip/gprint.py (the session's own program, round the kit's printer) for this claim.
import Derived.Test.YtomiikbcahocaaaGWdx0
import Derived.Test.YtomiikbcahocaaaGWdx4
import Derived.Test.YtomiikbcahocaaaGWdx5
import Derived.Test.YtomiikbcahocaaaGWdx6
namespace Go.Proofs.Ytomiikbcahocaaa.G
open Go.RowKit Go.Proofs.YtomiikbcahocaaaW.PrintWords Go.Proofs.YtomiikbcahocaaaW.PrintLast Go.Proofs.YtomiikbcahocaaaW.PrintMore
attribute [local go_sem] max2_int min2_int max_two min_two max_three min_three max_four min_four   -- for this text's walks alone
set_option linter.unusedVariables false
set_option linter.unusedSimpArgs false

/-! ### impl_WithDanger: function 46 -/
def impl_WithDanger.lays_ren : Go.Shelf.Ren := ⟨fun | 6 => 83 | 15 => 97 | 14 => 96 | 28 => 111 | 29 => 112 | 20 => 103 | 21 => 104 | 22 => 105 | 23 => 106 | 24 => 107 | 25 => 108 | 26 => 109 | 27 => 110 | 46 => 115 | 47 => 116 | 48 => 117 | 49 => 118 | 50 => 119 | 57 => 120 | n => n, fun | 22 => 22 | 24 => 51 | 25 => 65 | 3 => 3 | 39 => 98 | 0 => 0 | 53 => 110 | 55 => 112 | 4 => 4 | 46 => 104 | 45 => 103 | 50 => 31 | 5 => 5 | 9 => 9 | 66 => 117 | 70 => 121 | 76 => 123 | 77 => 124 | n => n, fun | n => n⟩
theorem impl_WithDanger.lays : SlLaysF.n6 Try.prog impl_WithDanger.lays_ren where
  mixed := by kernel_rfl
  f6 := ⟨Try.f83.name, by decide, Try.func83.trans (congrArg some (by kernel_rfl))⟩
  f14 := ⟨Try.f96.name, by decide, Try.func96.trans (congrArg some (by kernel_rfl))⟩
  f15 := Try.func97.trans (congrArg some (by kernel_rfl))
  f20 := ⟨Try.f103.name, by decide, Try.func103.trans (congrArg some (by kernel_rfl))⟩
  f21 := ⟨Try.f104.name, by decide, Try.func104.trans (congrArg some (by kernel_rfl))⟩
  f22 := ⟨Try.f105.name, by decide, Try.func105.trans (congrArg some (by kernel_rfl))⟩
  f23 := ⟨Try.f106.name, by decide, Try.func106.trans (congrArg some (by kernel_rfl))⟩
  f24 := ⟨Try.f107.name, by decide, Try.func107.trans (congrArg some (by kernel_rfl))⟩
  f25 := ⟨Try.f108.name, by decide, Try.func108.trans (congrArg some (by kernel_rfl))⟩
  f26 := ⟨Try.f109.name, by decide, Try.func109.trans (congrArg some (by kernel_rfl))⟩
  f27 := ⟨Try.f110.name, by decide, Try.func110.trans (congrArg some (by kernel_rfl))⟩
  f28 := Try.func111.trans (congrArg some (by kernel_rfl))
  f29 := Try.func112.trans (congrArg some (by kernel_rfl))
  f46 := ⟨Try.f115.name, by decide, Try.func115.trans (congrArg some (by kernel_rfl))⟩
  f47 := Try.func116.trans (congrArg some (by kernel_rfl))
  f48 := Try.func117.trans (congrArg some (by kernel_rfl))
  f49 := ⟨Try.f118.name, by decide, Try.func118.trans (congrArg some (by kernel_rfl))⟩
  f50 := ⟨Try.f119.name, by decide, Try.func119.trans (congrArg some (by kernel_rfl))⟩
  f57 := ⟨Try.f120.name, by decide, Try.func120.trans (congrArg some (by kernel_rfl))⟩
  t0 := Try.underlying0
  a0 := Try.isAgg0
  z0 := Try.sizeOf0
  v0 := Try.zeroValue0
  t3 := Try.underlying3
  a3 := Try.isAgg3
  z3 := Try.sizeOf3
  v3 := Try.zeroValue3
  t4 := Try.underlying4
  a4 := Try.isAgg4
  z4 := Try.sizeOf4
  v4 := Try.zeroValue4
  t5 := Try.underlying5
  a5 := Try.isAgg5
  z5 := Try.sizeOf5
  v5 := Try.zeroValue5
  t9 := Try.underlying9
  a9 := Try.isAgg9
  z9 := Try.sizeOf9
  v9 := Try.zeroValue9
  t22 := Try.underlying22
  a22 := Try.isAgg22
  z22 := Try.sizeOf22
  v22 := Try.zeroValue22
  a24 := Try.isAgg51
  z24 := Try.sizeOf51
  t25 := Try.underlying65
  a25 := Try.isAgg65
  z25 := Try.sizeOf65
  v25 := Try.zeroValue65
  t39 := Try.underlying98
  a39 := Try.isAgg98
  z39 := Try.sizeOf98
  v39 := Try.zeroValue98
  t45 := Try.underlying103
  a45 := Try.isAgg103
  z45 := Try.sizeOf103
  v45 := Try.zeroValue103
  t46 := Try.underlying104
  a46 := Try.isAgg104
  z46 := Try.sizeOf104
  v46 := Try.zeroValue104
  t50 := Try.underlying31
  a50 := Try.isAgg31
  z50 := Try.sizeOf31
  v50 := Try.zeroValue31
  t53 := Try.underlying110
  a53 := Try.isAgg110
  z53 := Try.sizeOf110
  v53 := Try.zeroValue110
  t55 := Try.underlying112
  a55 := Try.isAgg112
  z55 := Try.sizeOf112
  v55 := Try.zeroValue112
  t66 := Try.underlying117
  a66 := Try.isAgg117
  z66 := Try.sizeOf117
  v66 := Try.zeroValue117
  t70 := Try.underlying121
  a70 := Try.isAgg121
  z70 := Try.sizeOf121
  v70 := Try.zeroValue121
  t76 := Try.underlying123
  a76 := Try.isAgg123
  z76 := Try.sizeOf123
  v76 := Try.zeroValue123
  t77 := Try.underlying124
  a77 := Try.isAgg124
  z77 := Try.sizeOf124
  v77 := Try.zeroValue124
def impl_WithDanger.cmp2 (l m : List Int) : Int := if rd l 0 < rd m 0 then -1 else if rd l 0 > rd m 0 then 1 else if rd l 1 < rd m 1 then -1 else if rd l 1 > rd m 1 then 1 else 0
def impl_WithDanger.order (L : List (List Int)) : List (Fin L.length) := (List.finRange L.length).mergeSort fun x y => !decide (impl_WithDanger.cmp2 L[y.val] L[x.val] < 0)
def impl_WithDanger.sortL (L : List (List Int)) : List (List Int) := (impl_WithDanger.order L).map fun x => L[x.val]
def impl_WithDanger.dd (i j : Int) : List Int := [mn i j, mx i j]
theorem impl_WithDanger.compare (l m : List Int) (hl : l.length = 2) (hm : m.length = 2) : slices_Compare_int_int.f 4 l m = some (impl_WithDanger.cmp2 l m) := by
  have hc : ∀ a b : Int, cmp_Compare_int.f a b = some (if a < b then -1 else if a > b then 1 else 0) := fun a b => by
    unfold cmp_Compare_int.f cmp_isNaN_int.f
    simp only [bne_self_eq_false, Option.bind_some]
    by_cases h : a < b
    · simp [h]
    · by_cases h2 : b < a <;> simp [h, h2]
  have h1 : wrap64 (0 + 1) = 1 := by unfold wrap64; omega
  have h2 : wrap64 (1 + 1) = 2 := by unfold wrap64; omega
  unfold slices_Compare_int_int.f impl_WithDanger.cmp2
  simp only [slices_Compare_int_int.l0, hl, hm, hc, Option.bind_some, h1, h2]
  by_cases c1 : rd l 0 < rd m 0
  · simp [c1]
  · by_cases c2 : rd l 0 > rd m 0
    · simp [c1, c2]
    · by_cases c3 : rd l 1 < rd m 1
      · simp [c1, c2, c3]
      · by_cases c4 : rd l 1 > rd m 1
        · simp [c1, c2, c3, c4]
        · simp [c1, c2, c3, c4]
theorem impl_WithDanger.eq2 {l m : List Int} (hl : l.length = 2) (hm : m.length = 2) (h0 : rd l 0 = rd m 0) (h1 : rd l 1 = rd m 1) : l = m := by
  match l, m, hl, hm with
  | [a, b], [c, d], _, _ =>
    have e0 : a = c := h0
    have e1 : b = d := h1
    rw [e0, e1]
theorem impl_WithDanger.cmp2_neg (l m : List Int) : impl_WithDanger.cmp2 l m < 0 ↔ rd l 0 < rd m 0 ∨ (rd l 0 = rd m 0 ∧ rd l 1 < rd m 1) := by
  unfold impl_WithDanger.cmp2
  by_cases c1 : rd l 0 < rd m 0
  · simp [c1]
  · by_cases c2 : rd l 0 > rd m 0
    · simp [c1, c2]
      omega
    · have c5 : rd l 0 = rd m 0 := by omega
      by_cases c3 : rd l 1 < rd m 1
      · simp [c5, c3]
      · by_cases c4 : rd l 1 > rd m 1 <;> simp [c5, c3, c4]
theorem impl_WithDanger.equal (a b : Int) (e : List Int) : slices_Equal_int_int.f 4 [a, b] e = some (decide ([a, b] = e)) := by
  unfold slices_Equal_int_int.f
  by_cases h : e.length = 2
  · match e, h with
    | [c, d], _ =>
      have h1 : wrap64 (0 + 1) = 1 := by unfold wrap64; omega
      have h2 : wrap64 (1 + 1) = 2 := by unfold wrap64; omega
      have r0 : rd [a, b] 0 = a := rfl
      have r1 : rd [a, b] 1 = b := rfl
      have s0 : rd [c, d] 0 = c := rfl
      have s1 : rd [c, d] 1 = d := rfl
      simp only [slices_Equal_int_int.l0, List.length_cons, List.length_nil, h1, h2, r0, r1, s0, s1]
      by_cases ha : a = c <;> by_cases hb : b = d <;> simp [ha, hb]
  · have hne : [a, b] ≠ e := fun he => h (by rw [← he]; rfl)
    rw [if_neg (by simp; omega)]
    simp [hne]
theorem impl_WithDanger.rdget (l : List (List Int)) (i : Nat) (h : i < l.length) : rd_L1 l (i : Int) = l[i] := by
  simp [rd_L1, List.getD_eq_getElem?_getD, h]
set_option maxHeartbeats 2000000 in
theorem impl_WithDanger.index (g : Nat) (lb : Array Value) (p : List Int → Bool) (eg : ∀ args w, (callFunc g args).run Try.prog w = .ok (.enter g args) w) (A0 : Option Addr) (c0 : Nat) (l0 : List (List Int)) (w : World)
    (hp : ∀ (l : List Int) (A : Option Addr) (c q : Nat), Kd.C (Kd.int .i64) w A l.length l → l.length ≤ c → Calls Try.prog g (#[.slice A l.length c] ++ lb) (w.drewN q) fun e w' => e = .returned (.bool (p l)) ∧ ∃ q', w' = (w.drewN q).drewN q')
    (hr0 : Kd.C (Kd.slice 3 (Kd.int .i64)) w A0 l0.length l0) :
    Calls Try.prog 95 #[.slice A0 l0.length c0, .func (.func g) #[] lb] w fun e w' => e = .returned (.int .i64 (fidx p l0)) ∧ ∃ q, w' = w.drewN q := by
  have HR0 := Aside0.mk hr0
  have HP := Aside0.mk hp
  have hbig : l0.length ≤ 9223372036854775807 := hr0.2.1
  clear hr0 hp
  go_enter Try.func95, Try.ntmps95
  go_wp2
  go_loopg [5, 8] l0.length (fun gg _ s8 wr => ∃ kk q : Nat, kk ≤ l0.length ∧ l0.length - kk ≤ gg ∧ s8 = .int .i64 kk ∧ wr = w.drewN q ∧ Aside0 (∀ j, j < kk → p (rd_L1 l0 j) = false))
  case atStart => exact ⟨0, 0, Nat.zero_le _, by omega, rfl, rfl, ⟨fun j hj => absurd hj (Nat.not_lt_zero _)⟩⟩
  case round =>
    obtain ⟨kk, q, hkk, hg, rfl, rfl, A⟩ := hrel
    by_cases hlt : kk < l0.length
    · have hltz : (kk : Int) < (l0.length : Int) := by omega
      obtain ⟨ad, A1, c1, e161, hcell, hlc, hi⟩ := at_L1 HR0.out (kk : Int) (by omega) hltz
      cases e161
      rw [Int.toNat_natCast] at hcell
      have hcall := fun q => HP.out (rd_L1 l0 (kk : Int)) A1 c1 q hi hlc
      clear hlc hi
      have hv := Aside0.mk (rfl : rd_L1 l0 (kk : Int) = rd_L1 l0 (kk : Int))
      generalize hy : rd_L1 l0 (kk : Int) = y at hcell hcall hv
      clear hv
      have B : Aside0 (rd_L1 l0 (kk : Int) = y) := ⟨hy⟩
      clear hy
      cases hq : p y with
      | true =>
        rw [hq] at hcall
        go_wp2_with (go_at_fn g; refine (hcall _).mono ?_; rintro e w' ⟨rfl, q', rfl⟩)
        go_ret
        refine ⟨?_, _, rfl⟩
        rw [fidx_hit p l0 kk hlt (by rw [← impl_WithDanger.rdget l0 kk hlt, B.out]; exact hq) (fun j hj => by rw [← impl_WithDanger.rdget l0 j (by omega)]; exact A.out j hj)]
        rfl
      | false =>
        rw [hq] at hcall
        go_wp2_with (go_at_fn g; refine (hcall _).mono ?_; rintro e w' ⟨rfl, q', rfl⟩)
        go_roundg (l0.length - (kk + 1))
        case measure => omega
        case rel =>
          refine ⟨kk + 1, _, by omega, by omega, by go_num, rfl, ⟨fun j hj => ?_⟩⟩
          by_cases e : j = kk
          · subst e
            rw [B.out]; exact hq
          · exact A.out j (by omega)
    · have hltz : ¬ (kk : Int) < (l0.length : Int) := by omega
      have hk2 : kk = l0.length := by omega
      subst hk2
      go_wp2
      go_ret
      refine ⟨?_, q, rfl⟩
      rw [fidx_miss p l0 (fun j hj => by rw [← impl_WithDanger.rdget l0 j hj]; exact A.out j hj)]
      rfl
theorem impl_WithDanger.contains (g : Nat) (lb : Array Value) (p : List Int → Bool) (eg : ∀ args w, (callFunc g args).run Try.prog w = .ok (.enter g args) w) (A0 : Option Addr) (c0 : Nat) (l0 : List (List Int)) (w : World)
    (hp : ∀ (l : List Int) (A : Option Addr) (c q : Nat), Kd.C (Kd.int .i64) w A l.length l → l.length ≤ c → Calls Try.prog g (#[.slice A l.length c] ++ lb) (w.drewN q) fun e w' => e = .returned (.bool (p l)) ∧ ∃ q', w' = (w.drewN q).drewN q')
    (hr0 : Kd.C (Kd.slice 3 (Kd.int .i64)) w A0 l0.length l0) :
    Calls Try.prog 79 #[.slice A0 l0.length c0, .func (.func g) #[] lb] w fun e w' => e = .returned (.bool (l0.any p)) ∧ ∃ q, w' = w.drewN q := by
  rw [← fidx_any]
  have hcon := impl_WithDanger.index g lb p eg A0 c0 l0 w hp hr0
  clear hp hr0
  generalize fidx p l0 = r at hcon ⊢
  go_enter Try.func79, Try.ntmps79
  go_wp2_with (go_at_call 95; refine hcon.mono ?_; rintro e w' ⟨rfl, q, rfl⟩)
  go_ret
  exact ⟨rfl, q, rfl⟩
theorem impl_WithDanger.closure (a b : Int) (B gd : Nat) (A : Option Addr) (c : Nat) (l : List Int) (W : World) (hb : W.cell? ⟨B, 0, none⟩ = some (.slice (some ⟨gd, 0, none⟩) 2 2)) (hd : Kd.C (Kd.int .i64) W (some ⟨gd, 0, none⟩) 2 [a, b]) (hl : Kd.C (Kd.int .i64) W A l.length l) (hc : l.length ≤ c) :
    Calls Try.prog 80 #[.slice A l.length c, .pointer (some ⟨B, 0, none⟩)] W fun e w' => e = .returned (.bool (decide ([a, b] = l))) ∧ ∃ q', w' = W.drewN q' := by
  have h59 := slices_Equal_int_int.calls 4 (some ⟨gd, 0, none⟩) 2 [a, b] A c l _ W hd (by simp) hl hc (impl_WithDanger.equal a b l)
  generalize decide ([a, b] = l) = r at h59 ⊢
  clear hd hl hc
  go_enter Try.func80, Try.ntmps80
  go_wp2_with (go_at_call 81; refine h59.mono ?_; rintro e w' ⟨rfl, ⟨q, rfl⟩⟩)
  go_ret
  exact ⟨rfl, q, rfl⟩
theorem impl_WithDanger.far {α : Type} [Inhabited α] (enc : α → Value) (w : World) (blk off m : Nat) (dk : Array α) (os : Array Obj) (k : Nat) (hk : k < w.heap.size) (hne : k ≠ blk) : (sortWorld enc w blk off m dk os).heap[k]? = w.heap[k]? := by
  unfold sortWorld
  rw [Go.Sort.heap_grow_old _ _ (by simpa using hk)]
  simp [Go.Sort.putRow, Go.Sort.mapBlock, Sort.ahead, Array.getElem?_modify, Ne.symm hne]
theorem impl_WithDanger.heap {α : Type} [Inhabited α] (enc : α → Value) (w : World) (g m : Nat) (d : Array α) (os : Array Obj) {cur : Array Value} {e : TypeId} {fr : Nat × Nat} (hb : w.heap[g]? = some (.cells cur e fr)) :
    (sortWorld enc w g 0 m d os).heap[g]? = some (.cells (Go.Sort.putCells enc 0 d cur) e fr) := by
  have hg : g < w.heap.size := (Array.getElem?_eq_some_iff.1 hb).1
  unfold sortWorld
  rw [Go.Sort.heap_grow_old _ _ (by simpa using hg)]
  simp [Go.Sort.putRow, Go.Sort.mapBlock, Sort.ahead, Array.getElem?_modify, hb, Go.Sort.onCells]
theorem impl_WithDanger.takes {α : Type} [Inhabited α] (enc : α → Value) (cur : Array Value) (ts : List α) (h : ts.length ≤ cur.size) : (Go.Sort.putCells enc 0 ts.toArray cur).toList.take ts.length = ts.map enc := by
  apply List.ext_getElem?
  intro j
  by_cases hj : j < ts.length
  · rw [List.getElem?_take_of_lt hj, Array.getElem?_toList]
    simp [Go.Sort.putCells, hj, show j < cur.size by omega]
  · rw [List.getElem?_take_eq_none (by omega), List.getElem?_eq_none (by simp; omega)]
theorem impl_WithDanger.grown {α : Type} [Inhabited α] (enc : α → Value) (w : World) (g m : Nat) (d : Array α) (os : Array Obj) : w.grownBy (sortWorld enc w g 0 m d os) (some g) :=
  ⟨rfl, rfl, rfl, by unfold sortWorld; simp, fun k hk hne => impl_WithDanger.far enc w g 0 m d os k hk (fun e => hne (by rw [e]))⟩
theorem impl_WithDanger.order_length (L : List (List Int)) : (impl_WithDanger.order L).length = L.length := by simp [impl_WithDanger.order]
theorem impl_WithDanger.order_nodup (L : List (List Int)) : (impl_WithDanger.order L).Nodup := (List.mergeSort_perm _ _).nodup_iff.2 (List.nodup_finRange _)
theorem impl_WithDanger.one {α : Type} (xs : List α) (j : Nat) (h : j < xs.length) : (xs.drop (j * 1)).take 1 = [xs[j]] := by
  rw [Nat.mul_one, List.drop_eq_getElem_cons h, List.take_succ_cons, List.take_zero]
set_option maxHeartbeats 8000000 in
set_option maxRecDepth 100000 in
theorem impl_WithDanger.sorts (L : List (List Int)) (hl : 0 < L.length) (hl1 : L.length ≤ 1048576) (h2 : ∀ l ∈ L, l.length = 2) (hnd : L.Nodup) (w W : World) (v : Value) (HS : Kd.S (Kd.slice 3 (Kd.int .i64)) 51 W w.heap.size (fun _ => True) v L) (hB : Below w.heap.size w W) :
    Calls Try.prog 83 #[v, .func (.func 51) #[] #[]] W fun e w' => e = .returned (.tuple #[]) ∧ Kd.S (Kd.slice 3 (Kd.int .i64)) 51 w' w.heap.size (fun _ => True) v (impl_WithDanger.sortL L) ∧ Below w.heap.size w w' ∧ W.grownBy w' v.ownBlock := by
  haveI : Inhabited (Fin L.length) := ⟨⟨0, hl⟩⟩
  obtain ⟨f, h0, inner, hown, hrep⟩ := HS
  rw [List.length_zipIdx] at hown
  have hil : inner.length = L.length := by
    have := hrep.1
    rw [List.length_zipIdx] at this
    exact this.trans (Nat.mul_one _)
  have hval : ∀ (x : Nat) (hx : x < L.length), (Kd.int .i64).R 3 W w.heap.size (fun k => (True ∧ some k ≠ v.ownBlock) ∧ f k = x) (inner[x]'(by omega)) L[x] := by
    intro x hx
    obtain ⟨u, hu, hR⟩ := hrep.2 x (L[x], x) (Kd.zip_at (List.getElem?_eq_getElem hx))
    have e1 := (impl_WithDanger.one inner x (by omega)).symm.trans hu
    injection e1 with e1 _
    rw [e1]
    exact hR
  rcases hown.2 with ⟨_, hn⟩ | ⟨g, cap, cur, rfl, hbg, hh, hn, hcm, hcs, htake⟩
  · omega
  have hcs1 : cur.size = cap := hcs.trans (Nat.mul_one _)
  have htake1 : cur.toList.take L.length = inner := (congrArg cur.toList.take (Nat.mul_one _).symm).trans htake
  have hgW : g < W.heap.size := (Array.getElem?_eq_some_iff.1 hh).1
  have hds : (List.finRange L.length).toArray.size = L.length := by simp
  let enc : Fin L.length → Value := fun x => inner[x.val]'(by have := x.isLt; omega)
  have henc : ∀ x : Fin L.length, enc x = inner[x.val]'(by have := x.isLt; omega) := fun _ => rfl
  have hH : Go.Sort.Holds enc W g 0 (List.finRange L.length).toArray := by
    intro j hj
    rw [hds] at hj
    refine ⟨?_, blk_frozen hh _⟩
    rw [cell_of_row W g _ cur 51 (0, 0) hh, Nat.zero_add, ← Array.getElem?_toList]
    have h5 : (cur.toList.take L.length)[j]? = inner[j]? := by rw [htake1]
    rw [List.getElem?_take, if_pos hj] at h5
    rw [h5, getElem!_pos _ j (by rw [hds]; exact hj), henc]
    simp [hil, hj]
  have hO : Go.Sort.SWO (ltOf (fun x y : Fin L.length => impl_WithDanger.cmp2 L[x.val] L[y.val])) := by
    constructor
    · intro x
      unfold ltOf
      rw [decide_eq_false]
      rw [impl_WithDanger.cmp2_neg]
      omega
    · intro x y z k1 k2
      unfold ltOf at *
      rw [decide_eq_true_eq, impl_WithDanger.cmp2_neg] at *
      omega
    · intro x y z k1 k2
      unfold ltOf at *
      rw [decide_eq_false_iff_not, impl_WithDanger.cmp2_neg] at *
      omega
  have hT : ∀ x y : Fin L.length, ltOf (fun x y : Fin L.length => impl_WithDanger.cmp2 L[x.val] L[y.val]) x y = false → ltOf (fun x y : Fin L.length => impl_WithDanger.cmp2 L[x.val] L[y.val]) y x = false → x = y := by
    intro x y k1 k2
    unfold ltOf at *
    rw [decide_eq_false_iff_not, impl_WithDanger.cmp2_neg] at *
    have e := impl_WithDanger.eq2 (h2 _ (List.getElem_mem x.isLt)) (h2 _ (List.getElem_mem y.isLt)) (by omega) (by omega)
    exact Fin.ext ((List.getElem_inj hnd).1 e)
  have eg : ∀ args w, (callFunc 51 args).run Try.prog w = .ok (.enter 51 args) w := enters_of Try.func51 (by kernel_rfl) rfl
  have hBs : ∀ (m : Nat) (os : Array Obj) (dk : Array (Fin L.length)), Below w.heap.size w (sortWorld enc W g 0 m dk os) := fun m os dk => Below.grown hB (impl_WithDanger.grown _ W g m dk os) hB.size (fun k hk => by injection hk with hk; subst hk; exact hbg)
  have hmove : ∀ (x : Nat) (hx : x < L.length) (m : Nat) (os : Array Obj) (dk : Array (Fin L.length)), (Kd.int .i64).R 3 (sortWorld enc W g 0 m dk os) w.heap.size (fun k => (True ∧ some k ≠ (Value.slice (some ⟨g, 0, none⟩) L.length cap).ownBlock) ∧ f k = x) (inner[x]'(by omega)) L[x] := fun x hx m os dk => Kd.R_grown (hval x hx) (impl_WithDanger.grown _ W g m dk os) (fun k hk e => hk.1.2 (e.trans (by simp [Value.ownBlock])))
  have hcmp : CmpLays1 Try.prog 51 #[] enc (fun x y : Fin L.length => impl_WithDanger.cmp2 L[x.val] L[y.val]) g 0 (List.finRange L.length).toArray.size W := by
    intro m os dk _ x y
    obtain ⟨A1, c1, e1, hc1, hr1⟩ := Kd.R_reads (hmove x.val x.isLt m os dk)
    obtain ⟨A2, c2, e2, hc2, hr2⟩ := Kd.R_reads (hmove y.val y.isLt m os dk)
    rw [henc x, henc y, e1, e2]
    refine (slices_Compare_int_int.calls 4 A1 c1 _ A2 c2 _ _ _ hr1 hc1 hr2 hc2 (impl_WithDanger.compare _ _ (h2 _ (List.getElem_mem x.isLt)) (h2 _ (List.getElem_mem y.isLt)))).mono ?_
    rintro e w' ⟨rfl, q, rfl⟩
    exact ⟨rfl, q, #[], by simp⟩
  have hone : OneCell enc := fun x => by
    obtain ⟨A1, c1, e1, _⟩ := Kd.R_reads (hval x.val x.isLt)
    rw [henc x, e1]
    rfl
  have hS := Any.slices_SortFunc_total impl_WithDanger.lays enc hone (fun x y : Fin L.length => impl_WithDanger.cmp2 L[x.val] L[y.val]) hO 51 #[] g 0 cap (List.finRange L.length).toArray W eg hcmp hH hgW (by rw [hds]; omega) hT
  rw [hds] at hS
  refine Calls.mono (show Calls Try.prog 83 #[.slice (some ⟨g, 0, none⟩) L.length cap, .func (.func 51) #[] #[]] W _ from hS) ?_
  rintro e w' ⟨rfl, n, os, rfl⟩
  refine ⟨rfl, ?_, hBs _ _ _, by have h9 := impl_WithDanger.grown enc W g n (((List.finRange L.length).mergeSort fun x y => !ltOf (fun x y : Fin L.length => impl_WithDanger.cmp2 L[x.val] L[y.val]) y x).toArray) os; simpa [Value.ownBlock] using h9⟩
  show Kd.S (Kd.slice 3 (Kd.int .i64)) 51 (sortWorld enc W g 0 n (impl_WithDanger.order L).toArray os) w.heap.size (fun _ => True) (.slice (some ⟨g, 0, none⟩) L.length cap) (impl_WithDanger.sortL L)
  have hol := impl_WithDanger.order_length L
  have hsl : (impl_WithDanger.sortL L).length = L.length := by rw [impl_WithDanger.sortL, List.length_map, hol]
  have hoj : ∀ (j : Nat) (hj : j < L.length), (impl_WithDanger.sortL L)[j]? = some (L[((impl_WithDanger.order L)[j]'(by omega)).val]) := by
    intro j hj
    rw [impl_WithDanger.sortL, List.getElem?_map, List.getElem?_eq_getElem (by omega)]
    rfl
  obtain ⟨f2, hr2⟩ := Kd.reps_tag (d := (Kd.slice 3 (Kd.int .i64))) (w := sortWorld enc W g 0 n (impl_WithDanger.order L).toArray os) (base := w.heap.size) (ok := fun k => True ∧ some k ≠ (Value.slice (some ⟨g, 0, none⟩) L.length cap).ownBlock) (xs := impl_WithDanger.sortL L) (inner := (impl_WithDanger.order L).map enc)
    (fun j k => (True ∧ some k ≠ (Value.slice (some ⟨g, 0, none⟩) L.length cap).ownBlock) ∧ ∃ hj : j < (impl_WithDanger.order L).length, f k = ((impl_WithDanger.order L)[j]).val)
    (by
      rintro i j k ⟨_, hi, k1⟩ ⟨_, hj, k2⟩
      exact (List.getElem_inj (impl_WithDanger.order_nodup L)).1 (Fin.ext (k1.symm.trans k2)))
    (fun j k hk => hk.1)
    (by rw [List.length_map, hsl, hol]; exact (Nat.mul_one _).symm)
    (by
      intro j x hx
      have hj : j < L.length := by
        have := (List.getElem?_eq_some_iff.1 hx).1
        omega
      rw [hoj j hj] at hx
      injection hx with hx
      subst hx
      show ∃ u, _ = [u] ∧ _
      refine ⟨enc ((impl_WithDanger.order L)[j]'(by omega)), ?_, ?_⟩
      · refine (impl_WithDanger.one ((impl_WithDanger.order L).map enc) j (by rw [List.length_map]; omega)).trans ?_
        rw [List.getElem_map]
      · exact Kd.R_mono (hmove _ (Fin.isLt _) n os _) (fun k hk => ⟨hk.1, by omega, hk.2⟩))
  refine ⟨f2, fun _ _ => trivial, (impl_WithDanger.order L).map enc, ?_, hr2⟩
  rw [List.length_zipIdx, hsl]
  refine ⟨by rw [List.length_map, hol]; exact (Nat.mul_one _).symm, .inr ⟨g, cap, _, rfl, hbg, impl_WithDanger.heap _ W g n _ os hh, hn, hcm, (show _ = cur.size by simp [Go.Sort.putCells]).trans hcs, ?_⟩⟩
  have h6 := impl_WithDanger.takes enc cur (impl_WithDanger.order L) (by rw [hol]; omega)
  rw [hol] at h6
  exact (congrArg (fun n => List.take n (Go.Sort.putCells enc 0 (impl_WithDanger.order L).toArray cur).toList) (Nat.mul_one L.length)).trans h6
def impl_WithDanger.f (k : Nat) (a0_0 : Int) (l0_1 : List (List Int)) (a0_2 : Int) (a1 : Int) (a2 : Int) : Option (Int × List (List Int) × Int × Bool) :=
  (impl_IsKeep.f k a0_0 l0_1 a0_2).bind fun t => if t = true then (if a1 = a2 then some (0, ([] : List (List Int)), 0, false) else
    (impl_areIn.f (impl_WithDanger.dd a1 a2) 0 (wrap64 (a0_0 - 1)) 2 2).bind fun t2 => if t2 = true then (if (l0_1.any fun e => decide (impl_WithDanger.dd a1 a2 = e)) = true then some (0, ([] : List (List Int)), 0, false) else
      (impl_cloneLists.f k l0_1).bind fun C => if (∀ l ∈ C ++ [impl_WithDanger.dd a1 a2], l.length = 2) ∧ (C ++ [impl_WithDanger.dd a1 a2]).Nodup ∧ C.length < 1048576 then some (a0_0, impl_WithDanger.sortL (C ++ [impl_WithDanger.dd a1 a2]), a0_2, true) else none)
    else some (0, ([] : List (List Int)), 0, false)) else some (0, ([] : List (List Int)), 0, false)
theorem impl_WithDanger.lit_event {P : Program} {ops : Array Oper} {rest : List Oper} {o : Oper} {a : Act} {Q : Exit → Act → World → Prop} {W : World} (hgd : o.guard = none) {N : Tmp} (_hd : o.dst = some N) {cs : Array Value} {t : TypeId} {n : Nat}
    (hrun : (execOp a.eval o).run P W = .ok (.value (.slice (some ⟨W.heap.size, 0, none⟩) n n)) (W.alloc (.cells cs t (0, 0))))
    (h : ∀ g, g = W.heap.size → ∀ w1, w1.heap[g]? = some (.cells cs t (0, 0)) → Below W.heap.size W w1 → wpList P ops Q rest (a.put o.dst (.slice (some ⟨g, 0, none⟩) n n)) w1) : wpList P ops Q (o :: rest) a W :=
  Kd.event_run hgd hrun (h _ rfl _ (blk_new W _) (below_alloc (Below.refl _ _) _))
theorem impl_WithDanger.lit_step {P : Program} {ops : Array Oper} {o : Oper} {a : Act} {Q : Exit → Act → World → Prop} {Kc : Act → World → Prop} {W : World} (hw : Region.wanted o (yielded ops a.tmps) = true) {N : Tmp} (_hd : o.dst = some N) {cs : Array Value} {t : TypeId} {n : Nat}
    (hrun : (execOp a.eval o).run P W = .ok (.value (.slice (some ⟨W.heap.size, 0, none⟩) n n)) (W.alloc (.cells cs t (0, 0))))
    (h : ∀ g, g = W.heap.size → ∀ w1, w1.heap[g]? = some (.cells cs t (0, 0)) → Below W.heap.size W w1 → Kc (a.put o.dst (.slice (some ⟨g, 0, none⟩) n n)) w1) : if Region.wanted o (yielded ops a.tmps) = true then Oper.wp P o a W Kc Q else Kc (a.put o.dst undef) W :=
  event_step hw hrun (h _ rfl _ (blk_new W _) (below_alloc (Below.refl _ _) _))
/-- A block of two ints, as a row. -/
theorem impl_WithDanger.row2 {w : World} {g N0 : Nat} {x y : Int} (h : w.heap[g]? = some (.cells #[.int .i64 x, .int .i64 y] 3 (0, 0))) (hN : N0 ≤ g) : Kd.R (Kd.int .i64) 3 w N0 (fun k => k = g) (.slice (some ⟨g, 0, none⟩) 2 2) [x, y] :=
  Kd.R_of_own (enc := Value.int .i64) (h1 := fun _ => rfl) ⟨rfl, .inr ⟨g, 2, _, rfl, hN, h, Nat.le_refl _, by decide, rfl, rfl⟩⟩ (fun k hk => by injection hk with hk; exact hk.symm)
theorem impl_WithDanger.row2C {w : World} {g : Nat} {x y : Int} (h : w.heap[g]? = some (.cells #[.int .i64 x, .int .i64 y] 3 (0, 0))) : Kd.C (Kd.int .i64) w (some ⟨g, 0, none⟩) 2 [x, y] := (Kd.R_reads' (impl_WithDanger.row2 h (Nat.zero_le g))).2.2
theorem impl_WithDanger.append_step {P : Program} {ops : Array Oper} {o : Oper} {a : Act} {Q : Exit → Act → World → Prop} {Kc : Act → World → Prop} {α : Type} (d : Kd α) {w0 W : World} (base : Nat) (hw : Region.wanted o (yielded ops a.tmps) = true) (s x : Operand) (t e : TypeId) (z : Value) (bytes : Nat)
    (ho : o.op = .call { callee := .builtin .append, args := #[s, x], argTypes := #[t, t] })
    (ht : P.underlying t = some (.slice e)) (hinfo : (P.info? e).map (fun i => (i.zero, i.size, i.bytes)) = some (some z, d.sz, bytes)) (hz : z.cells.size = d.sz) (hsz : d.sz = 1) (hb0 : 0 < bytes)
    (v : Value) (xs : List α) (p : α) (gB : Nat) (u : Value) (ok okp : Nat → Prop) (hs : a.eval s = v) (hx : a.eval x = .slice (some ⟨gB, 0, none⟩) 1 1) (hB : W.heap[gB]? = some (.cells #[u] e (0, 0))) (hp : d.M W base okp p [u]) (hokp : ∀ k, okp k → ok k ∧ some k ≠ v.ownBlock) (hfresh : ∀ k, W.heap.size ≤ k → ok k)
    (HO : Kd.S d e W base (fun k => ok k ∧ ¬ okp k) v xs) (HB : Below base w0 W) (hbase : base ≤ W.heap.size) (hl : (xs.length + 1) * bytes ≤ 140737488355328)
    (h : ∀ v1 w1, Kd.S d e w1 base ok v1 (xs ++ [p]) → Below base w0 w1 → W.grownBy w1 v.ownBlock → Kc (a.put o.dst v1) w1) :
    if Region.wanted o (yielded ops a.tmps) = true then Oper.wp P o a W Kc Q else Kc (a.put o.dst undef) W := by
  obtain ⟨f, hf, hR⟩ := Kd.S_tag HO xs.length okp (fun _ hk h2 => h2.2 hk)
  refine Kd.R_append_rows_step (Kd.tag f d) (Rr := fun y cs => y = (p, xs.length) ∧ cs = [u]) (w0 := w0) base hw s x t e z bytes ho ht hinfo hz (by show 0 < d.sz; omega) hb0 v xs.zipIdx [(p, xs.length)] (some ⟨gB, 0, none⟩) 1 1 ok okp hs hx (Kd.R_mono hR (fun _ hk => hk.1)) ⟨rfl, by decide, fun _ => ⟨⟨gB, 0, none⟩, rfl, ?_⟩⟩ (fun y cs hy => ?_) hokp hfresh HB hbase (by rw [List.length_zipIdx]; exact hl) ?_
  · intro j q hj
    cases j with
    | zero =>
      injection hj with hj
      subst hj
      refine ⟨[u], hsz.symm, ⟨rfl, rfl⟩, fun i v hi => ?_⟩
      cases i with
      | zero =>
        injection hi with hi
        subst hi
        rw [Nat.zero_mul]
        exact (blk_cell hB 0).trans rfl
      | succ i => simp at hi
    | succ j => simp at hj
  · obtain ⟨rfl, rfl⟩ := hy
    exact d.M_mono (fun k hk => ⟨hk, hf k hk⟩) hp
  · intro v1 w1 hr hb hg _
    rw [← Kd.zip_snoc] at hr
    exact h v1 w1 ⟨f, hr⟩ hb hg
theorem impl_WithDanger.infoS : (Try.prog.info? 51).map (fun i => (i.zero, i.size, i.bytes)) = some (some (.slice none 0 0), 1, 24) := by kernel_rfl
set_option maxHeartbeats 8000000 in
set_option maxRecDepth 100000 in
theorem impl_WithDanger.calls (k : Nat) (a0_0 : Int) (A0_1 : Option Addr) (c0_1 : Nat) (l0_1 : List (List Int)) (a0_2 : Int) (a1 : Int) (a2 : Int) (r1 : Int) (r2 : List (List Int)) (r3 : Int) (r4 : Bool) (w : World) (hr0_1 : Kd.C (Kd.slice 3 (Kd.int .i64)) w A0_1 l0_1.length l0_1) (hc0_1 : l0_1.length ≤ c0_1) (h : impl_WithDanger.f k a0_0 l0_1 a0_2 a1 a2 = some (r1, r2, r3, r4)) :
    Calls Try.prog 46 #[.agg #[.int .i64 a0_0, .slice A0_1 l0_1.length c0_1, .int .i64 a0_2], .int .i64 a1, .int .i64 a2] w fun e w' => ∃ v0_ : Value, e = .returned (.tuple #[.agg #[.int .i64 r1, v0_, .int .i64 r3], .bool r4]) ∧ Kd.S (Kd.slice 3 (Kd.int .i64)) 51 w' w.heap.size (fun _ => True) v0_ r2 ∧ Below w.heap.size w w' := by
  have hu27 := Try.underlying27
  have HR := Aside0.mk hr0_1
  have HC := Aside0.mk hc0_1
  clear hr0_1 hc0_1
  have HB := Aside0.mk (Below.refl w.heap.size w)
  have HH : ((impl_IsKeep.f k a0_0 l0_1 a0_2).bind fun t => if t = true then (if a1 = a2 then some (0, ([] : List (List Int)), 0, false) else
    (impl_areIn.f (impl_WithDanger.dd a1 a2) 0 (wrap64 (a0_0 - 1)) 2 2).bind fun t2 => if t2 = true then (if (l0_1.any fun e => decide (impl_WithDanger.dd a1 a2 = e)) = true then some (0, ([] : List (List Int)), 0, false) else
      (impl_cloneLists.f k l0_1).bind fun C => if (∀ l ∈ C ++ [impl_WithDanger.dd a1 a2], l.length = 2) ∧ (C ++ [impl_WithDanger.dd a1 a2]).Nodup ∧ C.length < 1048576 then some (a0_0, impl_WithDanger.sortL (C ++ [impl_WithDanger.dd a1 a2]), a0_2, true) else none)
    else some (0, ([] : List (List Int)), 0, false)) else some (0, ([] : List (List Int)), 0, false)) = some (r1, r2, r3, r4) := h
  clear h
  obtain ⟨t, A10, HH⟩ := Option.bind_eq_some_iff.mp HH
  have A1 := Aside0.mk A10
  clear A10
  obtain ⟨b9, hb9⟩ : ∃ b, b = (l0_1.any fun e => decide (impl_WithDanger.dd a1 a2 = e)) := ⟨_, rfl⟩
  rw [← hb9] at HH
  have HH_ := Aside0.mk HH
  clear HH
  have B9 := Aside0.mk hb9
  clear hb9
  have eg : ∀ args w, (callFunc 80 args).run Try.prog w = .ok (.enter 80 args) w := enters_of Try.func80 (by kernel_rfl) rfl
  go_enter Try.func46, Try.ntmps46
  go_upto_region 2 with (first | ((with_reducible refine gate_dst (N := 3) rfl ?_); refine box_event ?hg (N := 3) ?hd (cs := #[.int .i64 a0_0, .slice A0_1 l0_1.length c0_1, .int .i64 a0_2]) (t := 27) ?hr ?_; (case hd => rfl); (case hg => rfl); (case hr => first | (go_simp; done) | (go_simp; rfl)); intro g3 hg w3 hbox hb; have Y3 := Aside0.mk hbox; have GY3 := Aside0.mk ((by rw [hg]; exact below_size HB.out) : w.heap.size ≤ g3); replace HB := Aside0.mk (below_step HB.out hb); clear hb hbox hg) | ((with_reducible refine gate_dst (N := 6) rfl ?_); refine box_event ?hg (N := 6) ?hd (cs := #[.int .i64 0, .slice none 0 0, .int .i64 0]) (t := 27) ?hr ?_; (case hd => rfl); (case hg => rfl); (case hr => first | (go_simp; done) | (go_simp; rfl)); intro g6 hg w6 hbox hb; have Y6 := Aside0.mk hbox; have GY6 := Aside0.mk ((by rw [hg]; exact below_size HB.out) : w.heap.size ≤ g6); have nY6Y3_ := Aside0.mk (Nat.ne_of_lt (Nat.lt_of_lt_of_le (blk_lt Y3.out) (Nat.le_of_eq hg.symm)) : g3 ≠ g6); replace Y3 := Aside0.mk (blk_below (g := g3) Y3.out hb); replace HB := Aside0.mk (below_step HB.out hb); clear hb hbox hg) | ((with_reducible refine gate_dst (N := 17) rfl ?_); refine impl_WithDanger.lit_event ?hg (N := 17) ?hd (cs := #[.int .i64 (mn a1 a2), .int .i64 (mx a1 a2)]) (t := 3) (n := 2) ?hr ?_; (case hd => rfl); (case hg => rfl); (case hr => first | (go_simp; done) | (go_simp; rfl)); intro g17 hg w17 hbox hb; have Y17 := Aside0.mk hbox; have GY17 := Aside0.mk ((by rw [hg]; exact below_size HB.out) : w.heap.size ≤ g17); have nY17Y3_ := Aside0.mk (Nat.ne_of_lt (Nat.lt_of_lt_of_le (blk_lt Y3.out) (Nat.le_of_eq hg.symm)) : g3 ≠ g17); replace Y3 := Aside0.mk (blk_below (g := g3) Y3.out hb); have nY17Y6_ := Aside0.mk (Nat.ne_of_lt (Nat.lt_of_lt_of_le (blk_lt Y6.out) (Nat.le_of_eq hg.symm)) : g6 ≠ g17); replace Y6 := Aside0.mk (blk_below (g := g6) Y6.out hb); replace HB := Aside0.mk (below_step HB.out hb); clear hb hbox hg) | ((with_reducible refine gate_dst (N := 8) rfl ?_); refine box_event ?hg (N := 8) ?hd (cs := #[.slice none 0 0]) (t := 51) ?hr ?_; (case hd => rfl); (case hg => rfl); (case hr => first | (go_simp; done) | (go_simp; rfl)); intro g8 hg w8 hbox hb; have Y8 := Aside0.mk hbox; have GY8 := Aside0.mk ((by rw [hg]; exact below_size HB.out) : w.heap.size ≤ g8); have nY8Y3_ := Aside0.mk (Nat.ne_of_lt (Nat.lt_of_lt_of_le (blk_lt Y3.out) (Nat.le_of_eq hg.symm)) : g3 ≠ g8); replace Y3 := Aside0.mk (blk_below (g := g3) Y3.out hb); have nY8Y6_ := Aside0.mk (Nat.ne_of_lt (Nat.lt_of_lt_of_le (blk_lt Y6.out) (Nat.le_of_eq hg.symm)) : g6 ≠ g8); replace Y6 := Aside0.mk (blk_below (g := g6) Y6.out hb); have nY8Y17_ := Aside0.mk (Nat.ne_of_lt (Nat.lt_of_lt_of_le (blk_lt Y17.out) (Nat.le_of_eq hg.symm)) : g17 ≠ g8); replace Y17 := Aside0.mk (blk_below (g := g17) Y17.out hb); replace HB := Aside0.mk (below_step HB.out hb); clear hb hbox hg; have hz8 : w8.cell? ⟨g8, 0, none⟩ = some (.slice none 0 0) := (blk_cell Y8.out 0).trans rfl; have hf8 := blk_frozen Y8.out 0))
  (try simp only [Act.put, List.setIfInBounds_toArray, List.set_cons_zero, List.set_cons_succ])
  clear hz8 hf8
  generalize (if a2 < a1 then a2 else a1) = m1
  generalize (if a1 < a2 then a2 else a1) = m2
  replace Y8 := Aside0.mk (blk_put (cs := #[.slice none 0 0]) Y8.out 0 (.slice (some ⟨g17, 0, none⟩) 2 2) rfl)
  replace Y3 := Aside0.mk (blk_far Y3.out (p := ⟨g8, 0, none⟩) (fun e_ => nY8Y3_.out e_) (.slice (some ⟨g17, 0, none⟩) 2 2))
  replace Y6 := Aside0.mk (blk_far Y6.out (p := ⟨g8, 0, none⟩) (fun e_ => nY8Y6_.out e_) (.slice (some ⟨g17, 0, none⟩) 2 2))
  replace Y17 := Aside0.mk (blk_far Y17.out (p := ⟨g8, 0, none⟩) (fun e_ => nY8Y17_.out e_) (.slice (some ⟨g17, 0, none⟩) 2 2))
  replace HB := Aside0.mk (below_set (j := 0) (v := (.slice (some ⟨g17, 0, none⟩) 2 2)) HB.out GY8.out)
  generalize w8.setCell ⟨g8, 0, none⟩ (.slice (some ⟨g17, 0, none⟩) 2 2) = w9 at Y8 Y3 Y6 Y17 HB ⊢
  have hcon := impl_WithDanger.contains 80 #[.pointer (some ⟨g8, 0, none⟩)] (fun e => decide (impl_WithDanger.dd a1 a2 = e)) eg A0_1 c0_1 l0_1 w9
    (fun l A c q hl hc => impl_WithDanger.closure (mn a1 a2) (mx a1 a2) g8 g17 A c l (w9.drewN q) ((blk_cell (blk_drewN Y8.out q) 0).trans rfl) (impl_WithDanger.row2C (blk_drewN Y17.out q)) (Kd.C_drewN hl q) hc)
    (Kd.C_below HR.out HB.out)
  rw [← B9.out] at hcon
  have HCON := Aside0.mk hcon
  clear hcon eg
  have hp1 : w9.cell? ⟨g3, 1, none⟩ = some (.slice A0_1 l0_1.length c0_1) := (blk_cell Y3.out 1).trans rfl
  go_upto_region 3 with (go_at_call 79; refine HCON.out.mono ?_; rintro e w10 ⟨rfl, q, rfl⟩)
  (try simp only [Act.put, List.setIfInBounds_toArray, List.set_cons_zero, List.set_cons_succ])
  clear hp1 HCON
  replace Y8 := Aside0.mk (blk_drewN Y8.out q)
  replace Y3 := Aside0.mk (blk_drewN Y3.out q)
  replace Y6 := Aside0.mk (blk_drewN Y6.out q)
  replace Y17 := Aside0.mk (blk_drewN Y17.out q)
  replace HB := Aside0.mk (pw_below_drewN HB.out q)
  generalize w9.drewN q = wA at Y8 Y3 Y6 Y17 HB ⊢
  have hp0 : wA.cell? ⟨g3, 0, none⟩ = some (.int .i64 a0_0) := (blk_cell Y3.out 0).trans rfl; have hp1 : wA.cell? ⟨g3, 1, none⟩ = some (.slice A0_1 l0_1.length c0_1) := (blk_cell Y3.out 1).trans rfl; have hp2 : wA.cell? ⟨g3, 2, none⟩ = some (.int .i64 a0_2) := (blk_cell Y3.out 2).trans rfl; have hz60 : wA.cell? ⟨g6, 0, none⟩ = some (.int .i64 0) := (blk_cell Y6.out 0).trans rfl; have hf60 := blk_frozen Y6.out 0; have hz61 : wA.cell? ⟨g6, 1, none⟩ = some (.slice none 0 0) := (blk_cell Y6.out 1).trans rfl; have hf61 := blk_frozen Y6.out 1; have hz62 : wA.cell? ⟨g6, 2, none⟩ = some (.int .i64 0) := (blk_cell Y6.out 2).trans rfl; have hf62 := blk_frozen Y6.out 2; have hz8 : wA.cell? ⟨g8, 0, none⟩ = some (.slice (some ⟨g17, 0, none⟩) 2 2) := (blk_cell Y8.out 0).trans rfl
  cases t with
  | false =>
    have H := ((if_neg (by decide)).symm.trans HH_.out)
    simp only [Option.some.injEq, Prod.mk.injEq] at H
    obtain ⟨rfl, rfl, rfl, rfl⟩ := H
    clear HH_
    go_wp2_with ((go_at_call 15; refine (impl_IsKeep.calls k a0_0 A0_1 c0_1 l0_1 a0_2 false _ (Kd.C_below HR.out HB.out) HC.out A1.out).mono ?_; rintro e wB ⟨rfl, hb⟩; replace Y3 := Aside0.mk (blk_below (g := g3) Y3.out hb); replace Y6 := Aside0.mk (blk_below (g := g6) Y6.out hb); replace Y8 := Aside0.mk (blk_below (g := g8) Y8.out hb); replace Y17 := Aside0.mk (blk_below (g := g17) Y17.out hb); replace HB := Aside0.mk (below_step HB.out hb); clear hb; clear hp0 hp1 hp2 hz60 hz61 hz62 hf60 hf61 hf62 hz8; have hp0 : wB.cell? ⟨g3, 0, none⟩ = some (.int .i64 a0_0) := (blk_cell Y3.out 0).trans rfl; have hp1 : wB.cell? ⟨g3, 1, none⟩ = some (.slice A0_1 l0_1.length c0_1) := (blk_cell Y3.out 1).trans rfl; have hp2 : wB.cell? ⟨g3, 2, none⟩ = some (.int .i64 a0_2) := (blk_cell Y3.out 2).trans rfl; have hz60 : wB.cell? ⟨g6, 0, none⟩ = some (.int .i64 0) := (blk_cell Y6.out 0).trans rfl; have hf60 := blk_frozen Y6.out 0; have hz61 : wB.cell? ⟨g6, 1, none⟩ = some (.slice none 0 0) := (blk_cell Y6.out 1).trans rfl; have hf61 := blk_frozen Y6.out 1; have hz62 : wB.cell? ⟨g6, 2, none⟩ = some (.int .i64 0) := (blk_cell Y6.out 2).trans rfl; have hf62 := blk_frozen Y6.out 2; have hz8 : wB.cell? ⟨g8, 0, none⟩ = some (.slice (some ⟨g17, 0, none⟩) 2 2) := (blk_cell Y8.out 0).trans rfl))
    refine bodyPost_ret (results_ct rfl _ _ g6 27 #[.int .i64 0, .slice none 0 0, .int .i64 0] (0, 0) _ rfl (by refine blk_put (cs := #[.int .i64 0, .slice none 0 0, .int .i64 0]) ?_ 2 _ rfl; refine blk_put (cs := #[.int .i64 0, .slice none 0 0, .int .i64 0]) ?_ 1 _ rfl; refine blk_put (cs := #[.int .i64 0, .slice none 0 0, .int .i64 0]) ?_ 0 _ rfl; exact Y6.out) Try.underlying27 rfl (by kernel_rfl)) rfl ?_
    exact ⟨_, rfl, Kd.S_nil _ _ _ _ _, by repeat (first | exact HB.out | refine below_set ?_ GY6.out)⟩
  | true =>
    have HH := HH_.out
    rw [if_pos rfl] at HH
    clear HH_
    by_cases he : a1 = a2
    · rw [if_pos he] at HH
      have HH_ := Aside0.mk HH
      clear HH
      have he2 : (a1 == a2) = true := by simpa using he
      have H := HH_.out
      simp only [Option.some.injEq, Prod.mk.injEq] at H
      obtain ⟨rfl, rfl, rfl, rfl⟩ := H
      clear HH_
      go_wp2_with ((go_at_call 15; refine (impl_IsKeep.calls k a0_0 A0_1 c0_1 l0_1 a0_2 true _ (Kd.C_below HR.out HB.out) HC.out A1.out).mono ?_; rintro e wB ⟨rfl, hb⟩; replace Y3 := Aside0.mk (blk_below (g := g3) Y3.out hb); replace Y6 := Aside0.mk (blk_below (g := g6) Y6.out hb); replace Y8 := Aside0.mk (blk_below (g := g8) Y8.out hb); replace Y17 := Aside0.mk (blk_below (g := g17) Y17.out hb); replace HB := Aside0.mk (below_step HB.out hb); clear hb; clear hp0 hp1 hp2 hz60 hz61 hz62 hf60 hf61 hf62 hz8; have hp0 : wB.cell? ⟨g3, 0, none⟩ = some (.int .i64 a0_0) := (blk_cell Y3.out 0).trans rfl; have hp1 : wB.cell? ⟨g3, 1, none⟩ = some (.slice A0_1 l0_1.length c0_1) := (blk_cell Y3.out 1).trans rfl; have hp2 : wB.cell? ⟨g3, 2, none⟩ = some (.int .i64 a0_2) := (blk_cell Y3.out 2).trans rfl; have hz60 : wB.cell? ⟨g6, 0, none⟩ = some (.int .i64 0) := (blk_cell Y6.out 0).trans rfl; have hf60 := blk_frozen Y6.out 0; have hz61 : wB.cell? ⟨g6, 1, none⟩ = some (.slice none 0 0) := (blk_cell Y6.out 1).trans rfl; have hf61 := blk_frozen Y6.out 1; have hz62 : wB.cell? ⟨g6, 2, none⟩ = some (.int .i64 0) := (blk_cell Y6.out 2).trans rfl; have hf62 := blk_frozen Y6.out 2; have hz8 : wB.cell? ⟨g8, 0, none⟩ = some (.slice (some ⟨g17, 0, none⟩) 2 2) := (blk_cell Y8.out 0).trans rfl))
      refine bodyPost_ret (results_ct rfl _ _ g6 27 #[.int .i64 0, .slice none 0 0, .int .i64 0] (0, 0) _ rfl (by refine blk_put (cs := #[.int .i64 0, .slice none 0 0, .int .i64 0]) ?_ 2 _ rfl; refine blk_put (cs := #[.int .i64 0, .slice none 0 0, .int .i64 0]) ?_ 1 _ rfl; refine blk_put (cs := #[.int .i64 0, .slice none 0 0, .int .i64 0]) ?_ 0 _ rfl; exact Y6.out) Try.underlying27 rfl (by kernel_rfl)) rfl ?_
      exact ⟨_, rfl, Kd.S_nil _ _ _ _ _, by repeat (first | exact HB.out | refine below_set ?_ GY6.out)⟩
    · rw [if_neg he] at HH
      have he2 : (a1 == a2) = false := by simpa using he
      clear he
      obtain ⟨t2, A20, HH⟩ := Option.bind_eq_some_iff.mp HH
      have A2 := Aside0.mk A20
      clear A20
      cases t2 with
      | false =>
        have HH_ := Aside0.mk HH
        clear HH
        have H := ((if_neg (by decide)).symm.trans HH_.out)
        simp only [Option.some.injEq, Prod.mk.injEq] at H
        obtain ⟨rfl, rfl, rfl, rfl⟩ := H
        clear HH_
        go_wp2_with (first | (go_at_call 15; refine (impl_IsKeep.calls k a0_0 A0_1 c0_1 l0_1 a0_2 true _ (Kd.C_below HR.out HB.out) HC.out A1.out).mono ?_; rintro e wB ⟨rfl, hb⟩; replace Y3 := Aside0.mk (blk_below (g := g3) Y3.out hb); replace Y6 := Aside0.mk (blk_below (g := g6) Y6.out hb); replace Y8 := Aside0.mk (blk_below (g := g8) Y8.out hb); replace Y17 := Aside0.mk (blk_below (g := g17) Y17.out hb); replace HB := Aside0.mk (below_step HB.out hb); clear hb; clear hp0 hp1 hp2 hz60 hz61 hz62 hf60 hf61 hf62 hz8; have hp0 : wB.cell? ⟨g3, 0, none⟩ = some (.int .i64 a0_0) := (blk_cell Y3.out 0).trans rfl; have hp1 : wB.cell? ⟨g3, 1, none⟩ = some (.slice A0_1 l0_1.length c0_1) := (blk_cell Y3.out 1).trans rfl; have hp2 : wB.cell? ⟨g3, 2, none⟩ = some (.int .i64 a0_2) := (blk_cell Y3.out 2).trans rfl; have hz60 : wB.cell? ⟨g6, 0, none⟩ = some (.int .i64 0) := (blk_cell Y6.out 0).trans rfl; have hf60 := blk_frozen Y6.out 0; have hz61 : wB.cell? ⟨g6, 1, none⟩ = some (.slice none 0 0) := (blk_cell Y6.out 1).trans rfl; have hf61 := blk_frozen Y6.out 1; have hz62 : wB.cell? ⟨g6, 2, none⟩ = some (.int .i64 0) := (blk_cell Y6.out 2).trans rfl; have hf62 := blk_frozen Y6.out 2; have hz8 : wB.cell? ⟨g8, 0, none⟩ = some (.slice (some ⟨g17, 0, none⟩) 2 2) := (blk_cell Y8.out 0).trans rfl) | (go_at_call 50; refine (impl_areIn.calls (some ⟨g17, 0, none⟩) 2 (impl_WithDanger.dd a1 a2) 0 (wrap64 (a0_0 - 1)) 2 2 false _ (impl_WithDanger.row2C Y17.out) (Nat.le_refl _) A2.out).mono ?_; rintro e wC ⟨rfl, hb⟩; replace Y3 := Aside0.mk (blk_below (g := g3) Y3.out hb); replace Y6 := Aside0.mk (blk_below (g := g6) Y6.out hb); replace Y8 := Aside0.mk (blk_below (g := g8) Y8.out hb); replace Y17 := Aside0.mk (blk_below (g := g17) Y17.out hb); replace HB := Aside0.mk (below_step HB.out hb); clear hb; clear hp0 hp1 hp2 hz60 hz61 hz62 hf60 hf61 hf62 hz8; have hp0 : wC.cell? ⟨g3, 0, none⟩ = some (.int .i64 a0_0) := (blk_cell Y3.out 0).trans rfl; have hp1 : wC.cell? ⟨g3, 1, none⟩ = some (.slice A0_1 l0_1.length c0_1) := (blk_cell Y3.out 1).trans rfl; have hp2 : wC.cell? ⟨g3, 2, none⟩ = some (.int .i64 a0_2) := (blk_cell Y3.out 2).trans rfl; have hz60 : wC.cell? ⟨g6, 0, none⟩ = some (.int .i64 0) := (blk_cell Y6.out 0).trans rfl; have hf60 := blk_frozen Y6.out 0; have hz61 : wC.cell? ⟨g6, 1, none⟩ = some (.slice none 0 0) := (blk_cell Y6.out 1).trans rfl; have hf61 := blk_frozen Y6.out 1; have hz62 : wC.cell? ⟨g6, 2, none⟩ = some (.int .i64 0) := (blk_cell Y6.out 2).trans rfl; have hf62 := blk_frozen Y6.out 2; have hz8 : wC.cell? ⟨g8, 0, none⟩ = some (.slice (some ⟨g17, 0, none⟩) 2 2) := (blk_cell Y8.out 0).trans rfl))
        refine bodyPost_ret (results_ct rfl _ _ g6 27 #[.int .i64 0, .slice none 0 0, .int .i64 0] (0, 0) _ rfl (by refine blk_put (cs := #[.int .i64 0, .slice none 0 0, .int .i64 0]) ?_ 2 _ rfl; refine blk_put (cs := #[.int .i64 0, .slice none 0 0, .int .i64 0]) ?_ 1 _ rfl; refine blk_put (cs := #[.int .i64 0, .slice none 0 0, .int .i64 0]) ?_ 0 _ rfl; exact Y6.out) Try.underlying27 rfl (by kernel_rfl)) rfl ?_
        exact ⟨_, rfl, Kd.S_nil _ _ _ _ _, by repeat (first | exact HB.out | refine below_set ?_ GY6.out)⟩
      | true =>
        rw [if_pos rfl] at HH
        cases b9 with
        | true =>
          rw [if_pos rfl] at HH
          have HH_ := Aside0.mk HH
          clear HH
          have H := HH_.out
          simp only [Option.some.injEq, Prod.mk.injEq] at H
          obtain ⟨rfl, rfl, rfl, rfl⟩ := H
          clear HH_
          go_wp2_with (first | (go_at_call 15; refine (impl_IsKeep.calls k a0_0 A0_1 c0_1 l0_1 a0_2 true _ (Kd.C_below HR.out HB.out) HC.out A1.out).mono ?_; rintro e wB ⟨rfl, hb⟩; replace Y3 := Aside0.mk (blk_below (g := g3) Y3.out hb); replace Y6 := Aside0.mk (blk_below (g := g6) Y6.out hb); replace Y8 := Aside0.mk (blk_below (g := g8) Y8.out hb); replace Y17 := Aside0.mk (blk_below (g := g17) Y17.out hb); replace HB := Aside0.mk (below_step HB.out hb); clear hb; clear hp0 hp1 hp2 hz60 hz61 hz62 hf60 hf61 hf62 hz8; have hp0 : wB.cell? ⟨g3, 0, none⟩ = some (.int .i64 a0_0) := (blk_cell Y3.out 0).trans rfl; have hp1 : wB.cell? ⟨g3, 1, none⟩ = some (.slice A0_1 l0_1.length c0_1) := (blk_cell Y3.out 1).trans rfl; have hp2 : wB.cell? ⟨g3, 2, none⟩ = some (.int .i64 a0_2) := (blk_cell Y3.out 2).trans rfl; have hz60 : wB.cell? ⟨g6, 0, none⟩ = some (.int .i64 0) := (blk_cell Y6.out 0).trans rfl; have hf60 := blk_frozen Y6.out 0; have hz61 : wB.cell? ⟨g6, 1, none⟩ = some (.slice none 0 0) := (blk_cell Y6.out 1).trans rfl; have hf61 := blk_frozen Y6.out 1; have hz62 : wB.cell? ⟨g6, 2, none⟩ = some (.int .i64 0) := (blk_cell Y6.out 2).trans rfl; have hf62 := blk_frozen Y6.out 2; have hz8 : wB.cell? ⟨g8, 0, none⟩ = some (.slice (some ⟨g17, 0, none⟩) 2 2) := (blk_cell Y8.out 0).trans rfl) | (go_at_call 50; refine (impl_areIn.calls (some ⟨g17, 0, none⟩) 2 (impl_WithDanger.dd a1 a2) 0 (wrap64 (a0_0 - 1)) 2 2 true _ (impl_WithDanger.row2C Y17.out) (Nat.le_refl _) A2.out).mono ?_; rintro e wC ⟨rfl, hb⟩; replace Y3 := Aside0.mk (blk_below (g := g3) Y3.out hb); replace Y6 := Aside0.mk (blk_below (g := g6) Y6.out hb); replace Y8 := Aside0.mk (blk_below (g := g8) Y8.out hb); replace Y17 := Aside0.mk (blk_below (g := g17) Y17.out hb); replace HB := Aside0.mk (below_step HB.out hb); clear hb; clear hp0 hp1 hp2 hz60 hz61 hz62 hf60 hf61 hf62 hz8; have hp0 : wC.cell? ⟨g3, 0, none⟩ = some (.int .i64 a0_0) := (blk_cell Y3.out 0).trans rfl; have hp1 : wC.cell? ⟨g3, 1, none⟩ = some (.slice A0_1 l0_1.length c0_1) := (blk_cell Y3.out 1).trans rfl; have hp2 : wC.cell? ⟨g3, 2, none⟩ = some (.int .i64 a0_2) := (blk_cell Y3.out 2).trans rfl; have hz60 : wC.cell? ⟨g6, 0, none⟩ = some (.int .i64 0) := (blk_cell Y6.out 0).trans rfl; have hf60 := blk_frozen Y6.out 0; have hz61 : wC.cell? ⟨g6, 1, none⟩ = some (.slice none 0 0) := (blk_cell Y6.out 1).trans rfl; have hf61 := blk_frozen Y6.out 1; have hz62 : wC.cell? ⟨g6, 2, none⟩ = some (.int .i64 0) := (blk_cell Y6.out 2).trans rfl; have hf62 := blk_frozen Y6.out 2; have hz8 : wC.cell? ⟨g8, 0, none⟩ = some (.slice (some ⟨g17, 0, none⟩) 2 2) := (blk_cell Y8.out 0).trans rfl))
          refine bodyPost_ret (results_ct rfl _ _ g6 27 #[.int .i64 0, .slice none 0 0, .int .i64 0] (0, 0) _ rfl (by refine blk_put (cs := #[.int .i64 0, .slice none 0 0, .int .i64 0]) ?_ 2 _ rfl; refine blk_put (cs := #[.int .i64 0, .slice none 0 0, .int .i64 0]) ?_ 1 _ rfl; refine blk_put (cs := #[.int .i64 0, .slice none 0 0, .int .i64 0]) ?_ 0 _ rfl; exact Y6.out) Try.underlying27 rfl (by kernel_rfl)) rfl ?_
          exact ⟨_, rfl, Kd.S_nil _ _ _ _ _, by repeat (first | exact HB.out | refine below_set ?_ GY6.out)⟩
        | false =>
          rw [if_neg (by decide)] at HH
          obtain ⟨C, A30, HH⟩ := Option.bind_eq_some_iff.mp HH
          have A3 := Aside0.mk A30
          clear A30
          obtain ⟨y, hy⟩ : ∃ y, y = C ++ [impl_WithDanger.dd a1 a2] := ⟨_, rfl⟩
          rw [← hy] at HH
          have HY := Aside0.mk hy
          clear hy
          by_cases hcnd : (∀ l ∈ y, l.length = 2) ∧ y.Nodup ∧ C.length < 1048576
          case neg =>
            rw [if_neg hcnd] at HH
            cases HH
          rw [if_pos hcnd] at HH
          have HCND := Aside0.mk hcnd
          clear hcnd
          simp only [Option.some.injEq, Prod.mk.injEq] at HH
          obtain ⟨rfl, rfl, rfl, rfl⟩ := HH
          go_wp2_with (first | (go_at_call 15; refine (impl_IsKeep.calls k a0_0 A0_1 c0_1 l0_1 a0_2 true _ (Kd.C_below HR.out HB.out) HC.out A1.out).mono ?_; rintro e wB ⟨rfl, hb⟩; replace Y3 := Aside0.mk (blk_below (g := g3) Y3.out hb); replace Y6 := Aside0.mk (blk_below (g := g6) Y6.out hb); replace Y8 := Aside0.mk (blk_below (g := g8) Y8.out hb); replace Y17 := Aside0.mk (blk_below (g := g17) Y17.out hb); replace HB := Aside0.mk (below_step HB.out hb); clear hb; clear hp0 hp1 hp2 hz60 hz61 hz62 hf60 hf61 hf62 hz8; have hp0 : wB.cell? ⟨g3, 0, none⟩ = some (.int .i64 a0_0) := (blk_cell Y3.out 0).trans rfl; have hp1 : wB.cell? ⟨g3, 1, none⟩ = some (.slice A0_1 l0_1.length c0_1) := (blk_cell Y3.out 1).trans rfl; have hp2 : wB.cell? ⟨g3, 2, none⟩ = some (.int .i64 a0_2) := (blk_cell Y3.out 2).trans rfl; have hz60 : wB.cell? ⟨g6, 0, none⟩ = some (.int .i64 0) := (blk_cell Y6.out 0).trans rfl; have hf60 := blk_frozen Y6.out 0; have hz61 : wB.cell? ⟨g6, 1, none⟩ = some (.slice none 0 0) := (blk_cell Y6.out 1).trans rfl; have hf61 := blk_frozen Y6.out 1; have hz62 : wB.cell? ⟨g6, 2, none⟩ = some (.int .i64 0) := (blk_cell Y6.out 2).trans rfl; have hf62 := blk_frozen Y6.out 2; have hz8 : wB.cell? ⟨g8, 0, none⟩ = some (.slice (some ⟨g17, 0, none⟩) 2 2) := (blk_cell Y8.out 0).trans rfl) | (go_at_call 50; refine (impl_areIn.calls (some ⟨g17, 0, none⟩) 2 (impl_WithDanger.dd a1 a2) 0 (wrap64 (a0_0 - 1)) 2 2 true _ (impl_WithDanger.row2C Y17.out) (Nat.le_refl _) A2.out).mono ?_; rintro e wC ⟨rfl, hb⟩; replace Y3 := Aside0.mk (blk_below (g := g3) Y3.out hb); replace Y6 := Aside0.mk (blk_below (g := g6) Y6.out hb); replace Y8 := Aside0.mk (blk_below (g := g8) Y8.out hb); replace Y17 := Aside0.mk (blk_below (g := g17) Y17.out hb); replace HB := Aside0.mk (below_step HB.out hb); clear hb; clear hp0 hp1 hp2 hz60 hz61 hz62 hf60 hf61 hf62 hz8; have hp0 : wC.cell? ⟨g3, 0, none⟩ = some (.int .i64 a0_0) := (blk_cell Y3.out 0).trans rfl; have hp1 : wC.cell? ⟨g3, 1, none⟩ = some (.slice A0_1 l0_1.length c0_1) := (blk_cell Y3.out 1).trans rfl; have hp2 : wC.cell? ⟨g3, 2, none⟩ = some (.int .i64 a0_2) := (blk_cell Y3.out 2).trans rfl; have hz60 : wC.cell? ⟨g6, 0, none⟩ = some (.int .i64 0) := (blk_cell Y6.out 0).trans rfl; have hf60 := blk_frozen Y6.out 0; have hz61 : wC.cell? ⟨g6, 1, none⟩ = some (.slice none 0 0) := (blk_cell Y6.out 1).trans rfl; have hf61 := blk_frozen Y6.out 1; have hz62 : wC.cell? ⟨g6, 2, none⟩ = some (.int .i64 0) := (blk_cell Y6.out 2).trans rfl; have hf62 := blk_frozen Y6.out 2; have hz8 : wC.cell? ⟨g8, 0, none⟩ = some (.slice (some ⟨g17, 0, none⟩) 2 2) := (blk_cell Y8.out 0).trans rfl))
          (try clear hp0 hp1 hp2 hz60 hz61 hz62 hf60 hf61 hf62 hz8)
          replace Y3 := Aside0.mk (blk_drew Y3.out)
          replace Y6 := Aside0.mk (blk_drew Y6.out)
          replace Y8 := Aside0.mk (blk_drew Y8.out)
          replace Y17 := Aside0.mk (blk_drew Y17.out)
          replace HB := Aside0.mk (below_drew1 HB.out)
          refine start_ (n := 13) (S := fun w' => (w'.cell? ⟨g3, 0, none⟩ = some (.int .i64 a0_0) ∧ w'.cell? ⟨g3, 1, none⟩ = some (.slice A0_1 l0_1.length c0_1) ∧ w'.cell? ⟨g3, 2, none⟩ = some (.int .i64 a0_2) ∧ w'.cell? ⟨g8, 0, none⟩ = some (.slice (some ⟨g17, 0, none⟩) 2 2))) (ds := [12]) #[false, false, false, false, false, false, false, false, false, false, false, false, false] (by kernel_rfl) rfl rfl ⟨(blk_cell Y3.out 0).trans rfl, (blk_cell Y3.out 1).trans rfl, (blk_cell Y3.out 2).trans rfl, (blk_cell Y8.out 0).trans rfl⟩ (fun hHeld => ?_)
          generalize wC.drew = wd at Y3 Y6 Y8 Y17 HB hHeld ⊢
          refine pure_ (i := 0) (N := some 42) (v := ?_) (a' := ?_) #[true, false, false, false, false, false, false, false, false, false, false, false, false] rfl rfl (by kernel_rfl) (fun _ _ _ h => h) (Or.inl ⟨by rfl, ?_⟩) ?_ ?_
          rotate_left
          · intro w'
            go_simp
            with_reducible rfl
          rotate_left
          · simp only [Act.put, List.setIfInBounds_toArray, List.set_cons_zero, List.set_cons_succ, i64_w, i32_w]
            rfl
          refine take_ (i := 1) (N := some 43) (v := ?_) (a' := ?_) #[true, true, false, false, false, false, false, false, false, false, false, false, false] rfl rfl (by kernel_rfl) (fun _ _ _ h => h) (Or.inl ⟨by rfl, ?_⟩) hHeld ?_ ?_
          rotate_left
          · rintro w' ⟨s0, s1, s2, s3⟩
            go_simp
            with_reducible rfl
          rotate_left
          · simp only [Act.put, List.setIfInBounds_toArray, List.set_cons_zero, List.set_cons_succ, i64_w, i32_w]
            rfl
          refine pure_ (i := 2) (N := some 44) (v := ?_) (a' := ?_) #[true, true, true, false, false, false, false, false, false, false, false, false, false] rfl rfl (by kernel_rfl) (fun _ _ _ h => h) (Or.inl ⟨by rfl, ?_⟩) ?_ ?_
          rotate_left
          · intro w'
            go_simp
            with_reducible rfl
          rotate_left
          · simp only [Act.put, List.setIfInBounds_toArray, List.set_cons_zero, List.set_cons_succ, i64_w, i32_w]
            rfl
          refine take_ (i := 3) (N := some 45) (v := ?_) (a' := ?_) #[true, true, true, true, false, false, false, false, false, false, false, false, false] rfl rfl (by kernel_rfl) (fun _ _ _ h => h) (Or.inl ⟨by rfl, ?_⟩) hHeld ?_ ?_
          rotate_left
          · rintro w' ⟨s0, s1, s2, s3⟩
            go_simp
            with_reducible rfl
          rotate_left
          · simp only [Act.put, List.setIfInBounds_toArray, List.set_cons_zero, List.set_cons_succ, i64_w, i32_w]
            rfl
          refine take_ (i := 5) (N := some 47) (v := ?_) (a' := ?_) #[true, true, true, true, false, true, false, false, false, false, false, false, false] rfl rfl (by kernel_rfl) (fun _ _ _ h => h) (Or.inl ⟨by rfl, ?_⟩) hHeld ?_ ?_
          rotate_left
          · rintro w' ⟨s0, s1, s2, s3⟩
            go_simp
            with_reducible rfl
          rotate_left
          · simp only [Act.put, List.setIfInBounds_toArray, List.set_cons_zero, List.set_cons_succ, i64_w, i32_w]
            rfl
          refine pure_ (i := 8) (N := some 50) (v := ?_) (a' := ?_) #[true, true, true, true, false, true, false, false, true, false, false, false, false] rfl rfl (by kernel_rfl) (fun _ _ _ h => h) (Or.inl ⟨by rfl, ?_⟩) ?_ ?_
          rotate_left
          · intro w'
            go_simp
            with_reducible rfl
          rotate_left
          · simp only [Act.put, List.setIfInBounds_toArray, List.set_cons_zero, List.set_cons_succ, i64_w, i32_w]
            rfl
          refine take_ (i := 9) (N := some 51) (v := ?_) (a' := ?_) #[true, true, true, true, false, true, false, false, true, true, false, false, false] rfl rfl (by kernel_rfl) (fun _ _ _ h => h) (Or.inl ⟨by rfl, ?_⟩) hHeld ?_ ?_
          rotate_left
          · rintro w' ⟨s0, s1, s2, s3⟩
            go_simp
            with_reducible rfl
          rotate_left
          · simp only [Act.put, List.setIfInBounds_toArray, List.set_cons_zero, List.set_cons_succ, i64_w, i32_w]
            rfl
          refine join_ (σ := Value × Value × Value × Nat) 1 #[true, true, true, true, true, true, true, true, true, true, true, true, false] (fun s_ => [(46, s_.1), (48, s_.2.1), (49, s_.2.2.1), (10, .pointer (some ⟨s_.2.2.2, 0, none⟩)), (52, .agg #[.int .i64 a0_0, s_.2.2.1, .int .i64 a0_2])]) (fun s_ w' => (w'.cell? ⟨g3, 0, none⟩ = some (.int .i64 a0_0) ∧ w'.cell? ⟨g3, 1, none⟩ = some (.slice A0_1 l0_1.length c0_1) ∧ w'.cell? ⟨g3, 2, none⟩ = some (.int .i64 a0_2) ∧ w'.cell? ⟨g8, 0, none⟩ = some (.slice (some ⟨g17, 0, none⟩) 2 2)) ∧ Kd.S (Kd.slice 3 (Kd.int .i64)) 51 w' w.heap.size (fun _ => True) s_.2.2.1 y ∧ w'.heap[g6]? = some (.cells #[.int .i64 0, .slice none 0 0, .int .i64 0] 27 (0, 0)) ∧ w'.heap[s_.2.2.2]? = some (.cells #[.int .i64 0, .slice none 0 0, .int .i64 0] 27 (0, 0)) ∧ w.heap.size ≤ s_.2.2.2 ∧ g6 ≠ s_.2.2.2 ∧ Below w.heap.size w w') ?_ ?_
          rotate_left
          · intro hCont
            refine three_ (i := 4) (j := 6) (k := 11) (Ni := some 46) (Nj := some 48) (Nk := some 10) #[true, true, true, true, true, true, false, false, true, true, false, false, false] #[true, true, true, true, false, true, true, false, true, true, false, false, false] #[true, true, true, true, false, true, false, false, true, true, false, true, false] rfl rfl rfl rfl rfl rfl (by kernel_rfl) (by decide) (by decide) (by decide) (fun K hK => ?_) (fun K hK => ?_) (fun K hK => ?_)
            · skip
              refine goes_ Try.func82 (by kernel_rfl) rfl #[.slice A0_1 l0_1.length c0_1] (by rfl) rfl rfl (by (try simp only [List.map_toArray, List.map_cons, List.map_nil]); first | done | rfl) ?_
              refine (impl_cloneLists.calls k A0_1 c0_1 l0_1 C _ (Kd.C_below HR.out HB.out) HC.out A3.out).mono ?_
              rintro e wx1 ⟨v46, rfl, ho, hb⟩
              refine ⟨_, rfl, ?_⟩
              have NE8 : Aside0 (some g8 ≠ v46.ownBlock) := ⟨fun e_ => by have h9 := Kd.R_base (Kd.S_R ho) g8 e_.symm; have h8 := blk_lt Y8.out; omega⟩
              have HS := Aside0.mk (Kd.S_lower (Kd.S_newB ho Y17.out) (below_size HB.out))
              replace Y3 := Aside0.mk (blk_below (g := g3) Y3.out hb)
              replace Y6 := Aside0.mk (blk_below (g := g6) Y6.out hb)
              replace Y8 := Aside0.mk (blk_below (g := g8) Y8.out hb)
              replace Y17 := Aside0.mk (blk_below (g := g17) Y17.out hb)
              replace HB := Aside0.mk (below_step HB.out hb)
              clear ho hb
              obtain ⟨A46, c46, e46⟩ := Kd.S_slice HS.out
              subst e46
              refine hK.out _ _ ⟨(blk_cell Y3.out 0).trans rfl, (blk_cell Y3.out 1).trans rfl, (blk_cell Y3.out 2).trans rfl, (blk_cell Y8.out 0).trans rfl⟩ (fun hHeld => ?_)
              clear hK K
              refine norm_ (a' := ?_) ?_ ?_
              rotate_left
              · show Act.put _ (some 46) _ = _
                simp only [Act.put, List.setIfInBounds_toArray, List.set_cons_zero, List.set_cons_succ, i64_w, i32_w]
                rfl
              refine two_ (i := 6) (j := 11) (Ni := some 48) (Nj := some 10) #[true, true, true, true, true, true, true, false, true, true, false, false, false] #[true, true, true, true, true, true, false, false, true, true, false, true, false] rfl rfl rfl rfl (by kernel_rfl) (by decide) (by decide) (fun K hK => ?_) (fun K hK => ?_)
              · skip
                refine impl_WithDanger.lit_step ?hg (N := 48) ?hd (cs := #[(.slice (some ⟨g17, 0, none⟩) 2 2)]) (t := 51) (n := 1) ?hr ?_; (case hd => rfl); (case hg => rfl); (case hr => first | (go_simp; done) | (go_simp; rfl))
                intro gB hg wx2 hbox hb
                replace Y3 := Aside0.mk (blk_below (g := g3) Y3.out hb)
                replace Y6 := Aside0.mk (blk_below (g := g6) Y6.out hb)
                replace Y8 := Aside0.mk (blk_below (g := g8) Y8.out hb)
                replace Y17 := Aside0.mk (blk_below (g := g17) Y17.out hb)
                replace HS := Aside0.mk (Kd.S_below HS.out hb)
                have YB := Aside0.mk hbox
                replace HB := Aside0.mk (below_step HB.out hb)
                clear hb hbox hg
                refine hK.out _ _ ⟨(blk_cell Y3.out 0).trans rfl, (blk_cell Y3.out 1).trans rfl, (blk_cell Y3.out 2).trans rfl, (blk_cell Y8.out 0).trans rfl⟩ (fun hHeld => ?_)
                clear hK K
                refine norm_ (a' := ?_) ?_ ?_
                rotate_left
                · show Act.put _ (some 48) _ = _
                  simp only [Act.put, List.setIfInBounds_toArray, List.set_cons_zero, List.set_cons_succ, i64_w, i32_w]
                  rfl
                refine two_ (i := 7) (j := 11) (Ni := some 49) (Nj := some 10) #[true, true, true, true, true, true, true, true, true, true, false, false, false] #[true, true, true, true, true, true, true, false, true, true, false, true, false] rfl rfl rfl rfl (by kernel_rfl) (by decide) (by decide) (fun K hK => ?_) (fun K hK => ?_)
                · skip
                  refine impl_WithDanger.append_step (Kd.slice 3 (Kd.int .i64)) (w0 := w) w.heap.size (by rfl) (.tmp 46) (.tmp 48) 22 51 (.slice none 0 0) 24 rfl Try.underlying22 impl_WithDanger.infoS rfl rfl (by omega) (.slice A46 C.length c46) C (impl_WithDanger.dd a1 a2) gB (.slice (some ⟨g17, 0, none⟩) 2 2) (fun _ => True) (fun k_ => k_ = g17) rfl rfl YB.out ⟨_, rfl, impl_WithDanger.row2 Y17.out GY17.out⟩ (fun k_ hk_ => ⟨trivial, fun e_ => by subst hk_; exact Kd.S_ne HS.out Y17.out (by decide) e_⟩) (fun _ _ => trivial) HS.out HB.out (below_size HB.out) (by have := HCND.out.2.2; omega) ?_
                  intro v49 wx3 ho hb hg
                  rw [← HY.out] at ho
                  replace Y3 := Aside0.mk (blk_grown (g := g3) Y3.out hg (Kd.S_ne HS.out Y3.out (by decide)))
                  replace Y6 := Aside0.mk (blk_grown (g := g6) Y6.out hg (Kd.S_ne HS.out Y6.out (by decide)))
                  replace Y17 := Aside0.mk (blk_grown (g := g17) Y17.out hg (Kd.S_ne HS.out Y17.out (by decide)))
                  replace Y8 := Aside0.mk (blk_grown (g := g8) Y8.out hg NE8.out)
                  replace HS := Aside0.mk ho
                  replace HB := Aside0.mk hb
                  clear ho hb hg YB NE8
                  obtain ⟨A49, c49, e49⟩ := Kd.S_slice HS.out
                  subst e49
                  refine hK.out _ _ ⟨(blk_cell Y3.out 0).trans rfl, (blk_cell Y3.out 1).trans rfl, (blk_cell Y3.out 2).trans rfl, (blk_cell Y8.out 0).trans rfl⟩ (fun hHeld => ?_)
                  clear hK K
                  refine norm_ (a' := ?_) ?_ ?_
                  rotate_left
                  · show Act.put _ (some 49) _ = _
                    simp only [Act.put, List.setIfInBounds_toArray, List.set_cons_zero, List.set_cons_succ, i64_w, i32_w]
                    rfl
                  refine pure_ (i := 10) (N := some 52) (v := ?_) (a' := ?_) #[true, true, true, true, true, true, true, true, true, true, true, false, false] rfl rfl (by kernel_rfl) (fun _ _ _ h => h) (Or.inl ⟨by rfl, ?_⟩) ?_ ?_
                  rotate_left
                  · intro w'
                    go_simp
                    with_reducible rfl
                  rotate_left
                  · simp only [Act.put, List.setIfInBounds_toArray, List.set_cons_zero, List.set_cons_succ, i64_w, i32_w]
                    rfl
                  refine one_ (i := 11) (N := some 10) #[true, true, true, true, true, true, true, true, true, true, true, true, false] rfl rfl (by kernel_rfl) (by decide) (fun K hK => ?_)
                  refine box_step ?hg (N := 10) ?hd (cs := #[.int .i64 0, .slice none 0 0, .int .i64 0]) (t := 27) ?hr ?_; (case hd => rfl); (case hg => rfl); (case hr => first | (go_simp; done) | (go_simp; rfl))
                  intro g10 hg wx4 hbox hb
                  have GY10 : Aside0 (w.heap.size ≤ g10) := ⟨by rw [hg]; exact below_size HB.out⟩
                  have N610 : Aside0 (g6 ≠ g10) := ⟨Nat.ne_of_lt (Nat.lt_of_lt_of_le (blk_lt Y6.out) (Nat.le_of_eq hg.symm))⟩
                  replace Y3 := Aside0.mk (blk_below (g := g3) Y3.out hb)
                  replace Y6 := Aside0.mk (blk_below (g := g6) Y6.out hb)
                  replace Y8 := Aside0.mk (blk_below (g := g8) Y8.out hb)
                  replace Y17 := Aside0.mk (blk_below (g := g17) Y17.out hb)
                  replace HS := Aside0.mk (Kd.S_below HS.out hb)
                  have Y10 := Aside0.mk hbox
                  replace HB := Aside0.mk (below_step HB.out hb)
                  clear hb hbox hg
                  refine hK.out _ _ ⟨(blk_cell Y3.out 0).trans rfl, (blk_cell Y3.out 1).trans rfl, (blk_cell Y3.out 2).trans rfl, (blk_cell Y8.out 0).trans rfl⟩ (fun hHeld => ?_)
                  clear hK K
                  refine norm_ (a' := ?_) ?_ ?_
                  rotate_left
                  · show Act.put _ (some 10) _ = _
                    simp only [Act.put, List.setIfInBounds_toArray, List.set_cons_zero, List.set_cons_succ, i64_w, i32_w]
                    rfl
                  exact norm_ (by simp only [putAll, Act.put, List.setIfInBounds_toArray, List.set_cons_zero, List.set_cons_succ]) (hCont (.slice A46 C.length c46,   .slice (some ⟨gB, 0, none⟩) 1 1, .slice A49 y.length c49, g10) _ ⟨hHeld, HS.out, Y6.out, Y10.out, GY10.out, N610.out, HB.out⟩)
                · skip
                  refine box_step ?hg (N := 10) ?hd (cs := #[.int .i64 0, .slice none 0 0, .int .i64 0]) (t := 27) ?hr ?_; (case hd => rfl); (case hg => rfl); (case hr => first | (go_simp; done) | (go_simp; rfl))
                  intro g10 hg wx5 hbox hb
                  have GY10 : Aside0 (w.heap.size ≤ g10) := ⟨by rw [hg]; exact below_size HB.out⟩
                  have N610 : Aside0 (g6 ≠ g10) := ⟨Nat.ne_of_lt (Nat.lt_of_lt_of_le (blk_lt Y6.out) (Nat.le_of_eq hg.symm))⟩
                  replace Y3 := Aside0.mk (blk_below (g := g3) Y3.out hb)
                  replace Y6 := Aside0.mk (blk_below (g := g6) Y6.out hb)
                  replace Y8 := Aside0.mk (blk_below (g := g8) Y8.out hb)
                  replace Y17 := Aside0.mk (blk_below (g := g17) Y17.out hb)
                  replace YB := Aside0.mk (blk_below (g := gB) YB.out hb)
                  replace HS := Aside0.mk (Kd.S_below HS.out hb)
                  have Y10 := Aside0.mk hbox
                  replace HB := Aside0.mk (below_step HB.out hb)
                  clear hb hbox hg
                  refine hK.out _ _ ⟨(blk_cell Y3.out 0).trans rfl, (blk_cell Y3.out 1).trans rfl, (blk_cell Y3.out 2).trans rfl, (blk_cell Y8.out 0).trans rfl⟩ (fun hHeld => ?_)
                  clear hK K
                  refine norm_ (a' := ?_) ?_ ?_
                  rotate_left
                  · show Act.put _ (some 10) _ = _
                    simp only [Act.put, List.setIfInBounds_toArray, List.set_cons_zero, List.set_cons_succ, i64_w, i32_w]
                    rfl
                  refine one_ (i := 7) (N := some 49) #[true, true, true, true, true, true, true, true, true, true, false, true, false] rfl rfl (by kernel_rfl) (by decide) (fun K hK => ?_)
                  refine impl_WithDanger.append_step (Kd.slice 3 (Kd.int .i64)) (w0 := w) w.heap.size (by rfl) (.tmp 46) (.tmp 48) 22 51 (.slice none 0 0) 24 rfl Try.underlying22 impl_WithDanger.infoS rfl rfl (by omega) (.slice A46 C.length c46) C (impl_WithDanger.dd a1 a2) gB (.slice (some ⟨g17, 0, none⟩) 2 2) (fun _ => True) (fun k_ => k_ = g17) rfl rfl YB.out ⟨_, rfl, impl_WithDanger.row2 Y17.out GY17.out⟩ (fun k_ hk_ => ⟨trivial, fun e_ => by subst hk_; exact Kd.S_ne HS.out Y17.out (by decide) e_⟩) (fun _ _ => trivial) HS.out HB.out (below_size HB.out) (by have := HCND.out.2.2; omega) ?_
                  intro v49 wx6 ho hb hg
                  rw [← HY.out] at ho
                  replace Y3 := Aside0.mk (blk_grown (g := g3) Y3.out hg (Kd.S_ne HS.out Y3.out (by decide)))
                  replace Y6 := Aside0.mk (blk_grown (g := g6) Y6.out hg (Kd.S_ne HS.out Y6.out (by decide)))
                  replace Y17 := Aside0.mk (blk_grown (g := g17) Y17.out hg (Kd.S_ne HS.out Y17.out (by decide)))
                  replace Y10 := Aside0.mk (blk_grown (g := g10) Y10.out hg (Kd.S_ne HS.out Y10.out (by decide)))
                  replace Y8 := Aside0.mk (blk_grown (g := g8) Y8.out hg NE8.out)
                  replace HS := Aside0.mk ho
                  replace HB := Aside0.mk hb
                  clear ho hb hg YB NE8
                  obtain ⟨A49, c49, e49⟩ := Kd.S_slice HS.out
                  subst e49
                  refine hK.out _ _ ⟨(blk_cell Y3.out 0).trans rfl, (blk_cell Y3.out 1).trans rfl, (blk_cell Y3.out 2).trans rfl, (blk_cell Y8.out 0).trans rfl⟩ (fun hHeld => ?_)
                  clear hK K
                  refine norm_ (a' := ?_) ?_ ?_
                  rotate_left
                  · show Act.put _ (some 49) _ = _
                    simp only [Act.put, List.setIfInBounds_toArray, List.set_cons_zero, List.set_cons_succ, i64_w, i32_w]
                    rfl
                  refine pure_ (i := 10) (N := some 52) (v := ?_) (a' := ?_) #[true, true, true, true, true, true, true, true, true, true, true, true, false] rfl rfl (by kernel_rfl) (fun _ _ _ h => h) (Or.inl ⟨by rfl, ?_⟩) ?_ ?_
                  rotate_left
                  · intro w'
                    go_simp
                    with_reducible rfl
                  rotate_left
                  · simp only [Act.put, List.setIfInBounds_toArray, List.set_cons_zero, List.set_cons_succ, i64_w, i32_w]
                    rfl
                  exact norm_ (by simp only [putAll, Act.put, List.setIfInBounds_toArray, List.set_cons_zero, List.set_cons_succ]) (hCont (.slice A46 C.length c46,   .slice (some ⟨gB, 0, none⟩) 1 1, .slice A49 y.length c49, g10) _ ⟨hHeld, HS.out, Y6.out, Y10.out, GY10.out, N610.out, HB.out⟩)
              · skip
                refine box_step ?hg (N := 10) ?hd (cs := #[.int .i64 0, .slice none 0 0, .int .i64 0]) (t := 27) ?hr ?_; (case hd => rfl); (case hg => rfl); (case hr => first | (go_simp; done) | (go_simp; rfl))
                intro g10 hg wx7 hbox hb
                have GY10 : Aside0 (w.heap.size ≤ g10) := ⟨by rw [hg]; exact below_size HB.out⟩
                have N610 : Aside0 (g6 ≠ g10) := ⟨Nat.ne_of_lt (Nat.lt_of_lt_of_le (blk_lt Y6.out) (Nat.le_of_eq hg.symm))⟩
                replace Y3 := Aside0.mk (blk_below (g := g3) Y3.out hb)
                replace Y6 := Aside0.mk (blk_below (g := g6) Y6.out hb)
                replace Y8 := Aside0.mk (blk_below (g := g8) Y8.out hb)
                replace Y17 := Aside0.mk (blk_below (g := g17) Y17.out hb)
                replace HS := Aside0.mk (Kd.S_below HS.out hb)
                have Y10 := Aside0.mk hbox
                replace HB := Aside0.mk (below_step HB.out hb)
                clear hb hbox hg
                refine hK.out _ _ ⟨(blk_cell Y3.out 0).trans rfl, (blk_cell Y3.out 1).trans rfl, (blk_cell Y3.out 2).trans rfl, (blk_cell Y8.out 0).trans rfl⟩ (fun hHeld => ?_)
                clear hK K
                refine norm_ (a' := ?_) ?_ ?_
                rotate_left
                · show Act.put _ (some 10) _ = _
                  simp only [Act.put, List.setIfInBounds_toArray, List.set_cons_zero, List.set_cons_succ, i64_w, i32_w]
                  rfl
                refine one_ (i := 6) (N := some 48) #[true, true, true, true, true, true, true, false, true, true, false, true, false] rfl rfl (by kernel_rfl) (by decide) (fun K hK => ?_)
                refine impl_WithDanger.lit_step ?hg (N := 48) ?hd (cs := #[(.slice (some ⟨g17, 0, none⟩) 2 2)]) (t := 51) (n := 1) ?hr ?_; (case hd => rfl); (case hg => rfl); (case hr => first | (go_simp; done) | (go_simp; rfl))
                intro gB hg wx8 hbox hb
                replace Y3 := Aside0.mk (blk_below (g := g3) Y3.out hb)
                replace Y6 := Aside0.mk (blk_below (g := g6) Y6.out hb)
                replace Y8 := Aside0.mk (blk_below (g := g8) Y8.out hb)
                replace Y17 := Aside0.mk (blk_below (g := g17) Y17.out hb)
                replace Y10 := Aside0.mk (blk_below (g := g10) Y10.out hb)
                replace HS := Aside0.mk (Kd.S_below HS.out hb)
                have YB := Aside0.mk hbox
                replace HB := Aside0.mk (below_step HB.out hb)
                clear hb hbox hg
                refine hK.out _ _ ⟨(blk_cell Y3.out 0).trans rfl, (blk_cell Y3.out 1).trans rfl, (blk_cell Y3.out 2).trans rfl, (blk_cell Y8.out 0).trans rfl⟩ (fun hHeld => ?_)
                clear hK K
                refine norm_ (a' := ?_) ?_ ?_
                rotate_left
                · show Act.put _ (some 48) _ = _
                  simp only [Act.put, List.setIfInBounds_toArray, List.set_cons_zero, List.set_cons_succ, i64_w, i32_w]
                  rfl
                refine one_ (i := 7) (N := some 49) #[true, true, true, true, true, true, true, true, true, true, false, true, false] rfl rfl (by kernel_rfl) (by decide) (fun K hK => ?_)
                refine impl_WithDanger.append_step (Kd.slice 3 (Kd.int .i64)) (w0 := w) w.heap.size (by rfl) (.tmp 46) (.tmp 48) 22 51 (.slice none 0 0) 24 rfl Try.underlying22 impl_WithDanger.infoS rfl rfl (by omega) (.slice A46 C.length c46) C (impl_WithDanger.dd a1 a2) gB (.slice (some ⟨g17, 0, none⟩) 2 2) (fun _ => True) (fun k_ => k_ = g17) rfl rfl YB.out ⟨_, rfl, impl_WithDanger.row2 Y17.out GY17.out⟩ (fun k_ hk_ => ⟨trivial, fun e_ => by subst hk_; exact Kd.S_ne HS.out Y17.out (by decide) e_⟩) (fun _ _ => trivial) HS.out HB.out (below_size HB.out) (by have := HCND.out.2.2; omega) ?_
                intro v49 wx9 ho hb hg
                rw [← HY.out] at ho
                replace Y3 := Aside0.mk (blk_grown (g := g3) Y3.out hg (Kd.S_ne HS.out Y3.out (by decide)))
                replace Y6 := Aside0.mk (blk_grown (g := g6) Y6.out hg (Kd.S_ne HS.out Y6.out (by decide)))
                replace Y17 := Aside0.mk (blk_grown (g := g17) Y17.out hg (Kd.S_ne HS.out Y17.out (by decide)))
                replace Y10 := Aside0.mk (blk_grown (g := g10) Y10.out hg (Kd.S_ne HS.out Y10.out (by decide)))
                replace Y8 := Aside0.mk (blk_grown (g := g8) Y8.out hg NE8.out)
                replace HS := Aside0.mk ho
                replace HB := Aside0.mk hb
                clear ho hb hg YB NE8
                obtain ⟨A49, c49, e49⟩ := Kd.S_slice HS.out
                subst e49
                refine hK.out _ _ ⟨(blk_cell Y3.out 0).trans rfl, (blk_cell Y3.out 1).trans rfl, (blk_cell Y3.out 2).trans rfl, (blk_cell Y8.out 0).trans rfl⟩ (fun hHeld => ?_)
                clear hK K
                refine norm_ (a' := ?_) ?_ ?_
                rotate_left
                · show Act.put _ (some 49) _ = _
                  simp only [Act.put, List.setIfInBounds_toArray, List.set_cons_zero, List.set_cons_succ, i64_w, i32_w]
                  rfl
                refine pure_ (i := 10) (N := some 52) (v := ?_) (a' := ?_) #[true, true, true, true, true, true, true, true, true, true, true, true, false] rfl rfl (by kernel_rfl) (fun _ _ _ h => h) (Or.inl ⟨by rfl, ?_⟩) ?_ ?_
                rotate_left
                · intro w'
                  go_simp
                  with_reducible rfl
                rotate_left
                · simp only [Act.put, List.setIfInBounds_toArray, List.set_cons_zero, List.set_cons_succ, i64_w, i32_w]
                  rfl
                exact norm_ (by simp only [putAll, Act.put, List.setIfInBounds_toArray, List.set_cons_zero, List.set_cons_succ]) (hCont (.slice A46 C.length c46,   .slice (some ⟨gB, 0, none⟩) 1 1, .slice A49 y.length c49, g10) _ ⟨hHeld, HS.out, Y6.out, Y10.out, GY10.out, N610.out, HB.out⟩)
            · skip
              refine impl_WithDanger.lit_step ?hg (N := 48) ?hd (cs := #[(.slice (some ⟨g17, 0, none⟩) 2 2)]) (t := 51) (n := 1) ?hr ?_; (case hd => rfl); (case hg => rfl); (case hr => first | (go_simp; done) | (go_simp; rfl))
              intro gB hg wx10 hbox hb
              replace Y3 := Aside0.mk (blk_below (g := g3) Y3.out hb)
              replace Y6 := Aside0.mk (blk_below (g := g6) Y6.out hb)
              replace Y8 := Aside0.mk (blk_below (g := g8) Y8.out hb)
              replace Y17 := Aside0.mk (blk_below (g := g17) Y17.out hb)
              have YB := Aside0.mk hbox
              replace HB := Aside0.mk (below_step HB.out hb)
              clear hb hbox hg
              refine hK.out _ _ ⟨(blk_cell Y3.out 0).trans rfl, (blk_cell Y3.out 1).trans rfl, (blk_cell Y3.out 2).trans rfl, (blk_cell Y8.out 0).trans rfl⟩ (fun hHeld => ?_)
              clear hK K
              refine norm_ (a' := ?_) ?_ ?_
              rotate_left
              · show Act.put _ (some 48) _ = _
                simp only [Act.put, List.setIfInBounds_toArray, List.set_cons_zero, List.set_cons_succ, i64_w, i32_w]
                rfl
              refine two_ (i := 4) (j := 11) (Ni := some 46) (Nj := some 10) #[true, true, true, true, true, true, true, false, true, true, false, false, false] #[true, true, true, true, false, true, true, false, true, true, false, true, false] rfl rfl rfl rfl (by kernel_rfl) (by decide) (by decide) (fun K hK => ?_) (fun K hK => ?_)
              · skip
                refine goes_ Try.func82 (by kernel_rfl) rfl #[.slice A0_1 l0_1.length c0_1] (by rfl) rfl rfl (by (try simp only [List.map_toArray, List.map_cons, List.map_nil]); first | done | rfl) ?_
                refine (impl_cloneLists.calls k A0_1 c0_1 l0_1 C _ (Kd.C_below HR.out HB.out) HC.out A3.out).mono ?_
                rintro e wx11 ⟨v46, rfl, ho, hb⟩
                refine ⟨_, rfl, ?_⟩
                have NE8 : Aside0 (some g8 ≠ v46.ownBlock) := ⟨fun e_ => by have h9 := Kd.R_base (Kd.S_R ho) g8 e_.symm; have h8 := blk_lt Y8.out; omega⟩
                have HS := Aside0.mk (Kd.S_lower (Kd.S_newB ho Y17.out) (below_size HB.out))
                replace Y3 := Aside0.mk (blk_below (g := g3) Y3.out hb)
                replace Y6 := Aside0.mk (blk_below (g := g6) Y6.out hb)
                replace Y8 := Aside0.mk (blk_below (g := g8) Y8.out hb)
                replace Y17 := Aside0.mk (blk_below (g := g17) Y17.out hb)
                replace YB := Aside0.mk (blk_below (g := gB) YB.out hb)
                replace HB := Aside0.mk (below_step HB.out hb)
                clear ho hb
                obtain ⟨A46, c46, e46⟩ := Kd.S_slice HS.out
                subst e46
                refine hK.out _ _ ⟨(blk_cell Y3.out 0).trans rfl, (blk_cell Y3.out 1).trans rfl, (blk_cell Y3.out 2).trans rfl, (blk_cell Y8.out 0).trans rfl⟩ (fun hHeld => ?_)
                clear hK K
                refine norm_ (a' := ?_) ?_ ?_
                rotate_left
                · show Act.put _ (some 46) _ = _
                  simp only [Act.put, List.setIfInBounds_toArray, List.set_cons_zero, List.set_cons_succ, i64_w, i32_w]
                  rfl
                refine two_ (i := 7) (j := 11) (Ni := some 49) (Nj := some 10) #[true, true, true, true, true, true, true, true, true, true, false, false, false] #[true, true, true, true, true, true, true, false, true, true, false, true, false] rfl rfl rfl rfl (by kernel_rfl) (by decide) (by decide) (fun K hK => ?_) (fun K hK => ?_)
                · skip
                  refine impl_WithDanger.append_step (Kd.slice 3 (Kd.int .i64)) (w0 := w) w.heap.size (by rfl) (.tmp 46) (.tmp 48) 22 51 (.slice none 0 0) 24 rfl Try.underlying22 impl_WithDanger.infoS rfl rfl (by omega) (.slice A46 C.length c46) C (impl_WithDanger.dd a1 a2) gB (.slice (some ⟨g17, 0, none⟩) 2 2) (fun _ => True) (fun k_ => k_ = g17) rfl rfl YB.out ⟨_, rfl, impl_WithDanger.row2 Y17.out GY17.out⟩ (fun k_ hk_ => ⟨trivial, fun e_ => by subst hk_; exact Kd.S_ne HS.out Y17.out (by decide) e_⟩) (fun _ _ => trivial) HS.out HB.out (below_size HB.out) (by have := HCND.out.2.2; omega) ?_
                  intro v49 wx12 ho hb hg
                  rw [← HY.out] at ho
                  replace Y3 := Aside0.mk (blk_grown (g := g3) Y3.out hg (Kd.S_ne HS.out Y3.out (by decide)))
                  replace Y6 := Aside0.mk (blk_grown (g := g6) Y6.out hg (Kd.S_ne HS.out Y6.out (by decide)))
                  replace Y17 := Aside0.mk (blk_grown (g := g17) Y17.out hg (Kd.S_ne HS.out Y17.out (by decide)))
                  replace Y8 := Aside0.mk (blk_grown (g := g8) Y8.out hg NE8.out)
                  replace HS := Aside0.mk ho
                  replace HB := Aside0.mk hb
                  clear ho hb hg YB NE8
                  obtain ⟨A49, c49, e49⟩ := Kd.S_slice HS.out
                  subst e49
                  refine hK.out _ _ ⟨(blk_cell Y3.out 0).trans rfl, (blk_cell Y3.out 1).trans rfl, (blk_cell Y3.out 2).trans rfl, (blk_cell Y8.out 0).trans rfl⟩ (fun hHeld => ?_)
                  clear hK K
                  refine norm_ (a' := ?_) ?_ ?_
                  rotate_left
                  · show Act.put _ (some 49) _ = _
                    simp only [Act.put, List.setIfInBounds_toArray, List.set_cons_zero, List.set_cons_succ, i64_w, i32_w]
                    rfl
                  refine pure_ (i := 10) (N := some 52) (v := ?_) (a' := ?_) #[true, true, true, true, true, true, true, true, true, true, true, false, false] rfl rfl (by kernel_rfl) (fun _ _ _ h => h) (Or.inl ⟨by rfl, ?_⟩) ?_ ?_
                  rotate_left
                  · intro w'
                    go_simp
                    with_reducible rfl
                  rotate_left
                  · simp only [Act.put, List.setIfInBounds_toArray, List.set_cons_zero, List.set_cons_succ, i64_w, i32_w]
                    rfl
                  refine one_ (i := 11) (N := some 10) #[true, true, true, true, true, true, true, true, true, true, true, true, false] rfl rfl (by kernel_rfl) (by decide) (fun K hK => ?_)
                  refine box_step ?hg (N := 10) ?hd (cs := #[.int .i64 0, .slice none 0 0, .int .i64 0]) (t := 27) ?hr ?_; (case hd => rfl); (case hg => rfl); (case hr => first | (go_simp; done) | (go_simp; rfl))
                  intro g10 hg wx13 hbox hb
                  have GY10 : Aside0 (w.heap.size ≤ g10) := ⟨by rw [hg]; exact below_size HB.out⟩
                  have N610 : Aside0 (g6 ≠ g10) := ⟨Nat.ne_of_lt (Nat.lt_of_lt_of_le (blk_lt Y6.out) (Nat.le_of_eq hg.symm))⟩
                  replace Y3 := Aside0.mk (blk_below (g := g3) Y3.out hb)
                  replace Y6 := Aside0.mk (blk_below (g := g6) Y6.out hb)
                  replace Y8 := Aside0.mk (blk_below (g := g8) Y8.out hb)
                  replace Y17 := Aside0.mk (blk_below (g := g17) Y17.out hb)
                  replace HS := Aside0.mk (Kd.S_below HS.out hb)
                  have Y10 := Aside0.mk hbox
                  replace HB := Aside0.mk (below_step HB.out hb)
                  clear hb hbox hg
                  refine hK.out _ _ ⟨(blk_cell Y3.out 0).trans rfl, (blk_cell Y3.out 1).trans rfl, (blk_cell Y3.out 2).trans rfl, (blk_cell Y8.out 0).trans rfl⟩ (fun hHeld => ?_)
                  clear hK K
                  refine norm_ (a' := ?_) ?_ ?_
                  rotate_left
                  · show Act.put _ (some 10) _ = _
                    simp only [Act.put, List.setIfInBounds_toArray, List.set_cons_zero, List.set_cons_succ, i64_w, i32_w]
                    rfl
                  exact norm_ (by simp only [putAll, Act.put, List.setIfInBounds_toArray, List.set_cons_zero, List.set_cons_succ]) (hCont (.slice A46 C.length c46,   .slice (some ⟨gB, 0, none⟩) 1 1, .slice A49 y.length c49, g10) _ ⟨hHeld, HS.out, Y6.out, Y10.out, GY10.out, N610.out, HB.out⟩)
                · skip
                  refine box_step ?hg (N := 10) ?hd (cs := #[.int .i64 0, .slice none 0 0, .int .i64 0]) (t := 27) ?hr ?_; (case hd => rfl); (case hg => rfl); (case hr => first | (go_simp; done) | (go_simp; rfl))
                  intro g10 hg wx14 hbox hb
                  have GY10 : Aside0 (w.heap.size ≤ g10) := ⟨by rw [hg]; exact below_size HB.out⟩
                  have N610 : Aside0 (g6 ≠ g10) := ⟨Nat.ne_of_lt (Nat.lt_of_lt_of_le (blk_lt Y6.out) (Nat.le_of_eq hg.symm))⟩
                  replace Y3 := Aside0.mk (blk_below (g := g3) Y3.out hb)
                  replace Y6 := Aside0.mk (blk_below (g := g6) Y6.out hb)
                  replace Y8 := Aside0.mk (blk_below (g := g8) Y8.out hb)
                  replace Y17 := Aside0.mk (blk_below (g := g17) Y17.out hb)
                  replace YB := Aside0.mk (blk_below (g := gB) YB.out hb)
                  replace HS := Aside0.mk (Kd.S_below HS.out hb)
                  have Y10 := Aside0.mk hbox
                  replace HB := Aside0.mk (below_step HB.out hb)
                  clear hb hbox hg
                  refine hK.out _ _ ⟨(blk_cell Y3.out 0).trans rfl, (blk_cell Y3.out 1).trans rfl, (blk_cell Y3.out 2).trans rfl, (blk_cell Y8.out 0).trans rfl⟩ (fun hHeld => ?_)
                  clear hK K
                  refine norm_ (a' := ?_) ?_ ?_
                  rotate_left
                  · show Act.put _ (some 10) _ = _
                    simp only [Act.put, List.setIfInBounds_toArray, List.set_cons_zero, List.set_cons_succ, i64_w, i32_w]
                    rfl
                  refine one_ (i := 7) (N := some 49) #[true, true, true, true, true, true, true, true, true, true, false, true, false] rfl rfl (by kernel_rfl) (by decide) (fun K hK => ?_)
                  refine impl_WithDanger.append_step (Kd.slice 3 (Kd.int .i64)) (w0 := w) w.heap.size (by rfl) (.tmp 46) (.tmp 48) 22 51 (.slice none 0 0) 24 rfl Try.underlying22 impl_WithDanger.infoS rfl rfl (by omega) (.slice A46 C.length c46) C (impl_WithDanger.dd a1 a2) gB (.slice (some ⟨g17, 0, none⟩) 2 2) (fun _ => True) (fun k_ => k_ = g17) rfl rfl YB.out ⟨_, rfl, impl_WithDanger.row2 Y17.out GY17.out⟩ (fun k_ hk_ => ⟨trivial, fun e_ => by subst hk_; exact Kd.S_ne HS.out Y17.out (by decide) e_⟩) (fun _ _ => trivial) HS.out HB.out (below_size HB.out) (by have := HCND.out.2.2; omega) ?_
                  intro v49 wx15 ho hb hg
                  rw [← HY.out] at ho
                  replace Y3 := Aside0.mk (blk_grown (g := g3) Y3.out hg (Kd.S_ne HS.out Y3.out (by decide)))
                  replace Y6 := Aside0.mk (blk_grown (g := g6) Y6.out hg (Kd.S_ne HS.out Y6.out (by decide)))
                  replace Y17 := Aside0.mk (blk_grown (g := g17) Y17.out hg (Kd.S_ne HS.out Y17.out (by decide)))
                  replace Y10 := Aside0.mk (blk_grown (g := g10) Y10.out hg (Kd.S_ne HS.out Y10.out (by decide)))
                  replace Y8 := Aside0.mk (blk_grown (g := g8) Y8.out hg NE8.out)
                  replace HS := Aside0.mk ho
                  replace HB := Aside0.mk hb
                  clear ho hb hg YB NE8
                  obtain ⟨A49, c49, e49⟩ := Kd.S_slice HS.out
                  subst e49
                  refine hK.out _ _ ⟨(blk_cell Y3.out 0).trans rfl, (blk_cell Y3.out 1).trans rfl, (blk_cell Y3.out 2).trans rfl, (blk_cell Y8.out 0).trans rfl⟩ (fun hHeld => ?_)
                  clear hK K
                  refine norm_ (a' := ?_) ?_ ?_
                  rotate_left
                  · show Act.put _ (some 49) _ = _
                    simp only [Act.put, List.setIfInBounds_toArray, List.set_cons_zero, List.set_cons_succ, i64_w, i32_w]
                    rfl
                  refine pure_ (i := 10) (N := some 52) (v := ?_) (a' := ?_) #[true, true, true, true, true, true, true, true, true, true, true, true, false] rfl rfl (by kernel_rfl) (fun _ _ _ h => h) (Or.inl ⟨by rfl, ?_⟩) ?_ ?_
                  rotate_left
                  · intro w'
                    go_simp
                    with_reducible rfl
                  rotate_left
                  · simp only [Act.put, List.setIfInBounds_toArray, List.set_cons_zero, List.set_cons_succ, i64_w, i32_w]
                    rfl
                  exact norm_ (by simp only [putAll, Act.put, List.setIfInBounds_toArray, List.set_cons_zero, List.set_cons_succ]) (hCont (.slice A46 C.length c46,   .slice (some ⟨gB, 0, none⟩) 1 1, .slice A49 y.length c49, g10) _ ⟨hHeld, HS.out, Y6.out, Y10.out, GY10.out, N610.out, HB.out⟩)
              · skip
                refine box_step ?hg (N := 10) ?hd (cs := #[.int .i64 0, .slice none 0 0, .int .i64 0]) (t := 27) ?hr ?_; (case hd => rfl); (case hg => rfl); (case hr => first | (go_simp; done) | (go_simp; rfl))
                intro g10 hg wx16 hbox hb
                have GY10 : Aside0 (w.heap.size ≤ g10) := ⟨by rw [hg]; exact below_size HB.out⟩
                have N610 : Aside0 (g6 ≠ g10) := ⟨Nat.ne_of_lt (Nat.lt_of_lt_of_le (blk_lt Y6.out) (Nat.le_of_eq hg.symm))⟩
                replace Y3 := Aside0.mk (blk_below (g := g3) Y3.out hb)
                replace Y6 := Aside0.mk (blk_below (g := g6) Y6.out hb)
                replace Y8 := Aside0.mk (blk_below (g := g8) Y8.out hb)
                replace Y17 := Aside0.mk (blk_below (g := g17) Y17.out hb)
                replace YB := Aside0.mk (blk_below (g := gB) YB.out hb)
                have Y10 := Aside0.mk hbox
                replace HB := Aside0.mk (below_step HB.out hb)
                clear hb hbox hg
                refine hK.out _ _ ⟨(blk_cell Y3.out 0).trans rfl, (blk_cell Y3.out 1).trans rfl, (blk_cell Y3.out 2).trans rfl, (blk_cell Y8.out 0).trans rfl⟩ (fun hHeld => ?_)
                clear hK K
                refine norm_ (a' := ?_) ?_ ?_
                rotate_left
                · show Act.put _ (some 10) _ = _
                  simp only [Act.put, List.setIfInBounds_toArray, List.set_cons_zero, List.set_cons_succ, i64_w, i32_w]
                  rfl
                refine one_ (i := 4) (N := some 46) #[true, true, true, true, true, true, true, false, true, true, false, true, false] rfl rfl (by kernel_rfl) (by decide) (fun K hK => ?_)
                refine goes_ Try.func82 (by kernel_rfl) rfl #[.slice A0_1 l0_1.length c0_1] (by rfl) rfl rfl (by (try simp only [List.map_toArray, List.map_cons, List.map_nil]); first | done | rfl) ?_
                refine (impl_cloneLists.calls k A0_1 c0_1 l0_1 C _ (Kd.C_below HR.out HB.out) HC.out A3.out).mono ?_
                rintro e wx17 ⟨v46, rfl, ho, hb⟩
                refine ⟨_, rfl, ?_⟩
                have NE8 : Aside0 (some g8 ≠ v46.ownBlock) := ⟨fun e_ => by have h9 := Kd.R_base (Kd.S_R ho) g8 e_.symm; have h8 := blk_lt Y8.out; omega⟩
                have HS := Aside0.mk (Kd.S_lower (Kd.S_newB ho Y17.out) (below_size HB.out))
                replace Y3 := Aside0.mk (blk_below (g := g3) Y3.out hb)
                replace Y6 := Aside0.mk (blk_below (g := g6) Y6.out hb)
                replace Y8 := Aside0.mk (blk_below (g := g8) Y8.out hb)
                replace Y17 := Aside0.mk (blk_below (g := g17) Y17.out hb)
                replace YB := Aside0.mk (blk_below (g := gB) YB.out hb)
                replace Y10 := Aside0.mk (blk_below (g := g10) Y10.out hb)
                replace HB := Aside0.mk (below_step HB.out hb)
                clear ho hb
                obtain ⟨A46, c46, e46⟩ := Kd.S_slice HS.out
                subst e46
                refine hK.out _ _ ⟨(blk_cell Y3.out 0).trans rfl, (blk_cell Y3.out 1).trans rfl, (blk_cell Y3.out 2).trans rfl, (blk_cell Y8.out 0).trans rfl⟩ (fun hHeld => ?_)
                clear hK K
                refine norm_ (a' := ?_) ?_ ?_
                rotate_left
                · show Act.put _ (some 46) _ = _
                  simp only [Act.put, List.setIfInBounds_toArray, List.set_cons_zero, List.set_cons_succ, i64_w, i32_w]
                  rfl
                refine one_ (i := 7) (N := some 49) #[true, true, true, true, true, true, true, true, true, true, false, true, false] rfl rfl (by kernel_rfl) (by decide) (fun K hK => ?_)
                refine impl_WithDanger.append_step (Kd.slice 3 (Kd.int .i64)) (w0 := w) w.heap.size (by rfl) (.tmp 46) (.tmp 48) 22 51 (.slice none 0 0) 24 rfl Try.underlying22 impl_WithDanger.infoS rfl rfl (by omega) (.slice A46 C.length c46) C (impl_WithDanger.dd a1 a2) gB (.slice (some ⟨g17, 0, none⟩) 2 2) (fun _ => True) (fun k_ => k_ = g17) rfl rfl YB.out ⟨_, rfl, impl_WithDanger.row2 Y17.out GY17.out⟩ (fun k_ hk_ => ⟨trivial, fun e_ => by subst hk_; exact Kd.S_ne HS.out Y17.out (by decide) e_⟩) (fun _ _ => trivial) HS.out HB.out (below_size HB.out) (by have := HCND.out.2.2; omega) ?_
                intro v49 wx18 ho hb hg
                rw [← HY.out] at ho
                replace Y3 := Aside0.mk (blk_grown (g := g3) Y3.out hg (Kd.S_ne HS.out Y3.out (by decide)))
                replace Y6 := Aside0.mk (blk_grown (g := g6) Y6.out hg (Kd.S_ne HS.out Y6.out (by decide)))
                replace Y17 := Aside0.mk (blk_grown (g := g17) Y17.out hg (Kd.S_ne HS.out Y17.out (by decide)))
                replace Y10 := Aside0.mk (blk_grown (g := g10) Y10.out hg (Kd.S_ne HS.out Y10.out (by decide)))
                replace Y8 := Aside0.mk (blk_grown (g := g8) Y8.out hg NE8.out)
                replace HS := Aside0.mk ho
                replace HB := Aside0.mk hb
                clear ho hb hg YB NE8
                obtain ⟨A49, c49, e49⟩ := Kd.S_slice HS.out
                subst e49
                refine hK.out _ _ ⟨(blk_cell Y3.out 0).trans rfl, (blk_cell Y3.out 1).trans rfl, (blk_cell Y3.out 2).trans rfl, (blk_cell Y8.out 0).trans rfl⟩ (fun hHeld => ?_)
                clear hK K
                refine norm_ (a' := ?_) ?_ ?_
                rotate_left
                · show Act.put _ (some 49) _ = _
                  simp only [Act.put, List.setIfInBounds_toArray, List.set_cons_zero, List.set_cons_succ, i64_w, i32_w]
                  rfl
                refine pure_ (i := 10) (N := some 52) (v := ?_) (a' := ?_) #[true, true, true, true, true, true, true, true, true, true, true, true, false] rfl rfl (by kernel_rfl) (fun _ _ _ h => h) (Or.inl ⟨by rfl, ?_⟩) ?_ ?_
                rotate_left
                · intro w'
                  go_simp
                  with_reducible rfl
                rotate_left
                · simp only [Act.put, List.setIfInBounds_toArray, List.set_cons_zero, List.set_cons_succ, i64_w, i32_w]
                  rfl
                exact norm_ (by simp only [putAll, Act.put, List.setIfInBounds_toArray, List.set_cons_zero, List.set_cons_succ]) (hCont (.slice A46 C.length c46,   .slice (some ⟨gB, 0, none⟩) 1 1, .slice A49 y.length c49, g10) _ ⟨hHeld, HS.out, Y6.out, Y10.out, GY10.out, N610.out, HB.out⟩)
            · skip
              refine box_step ?hg (N := 10) ?hd (cs := #[.int .i64 0, .slice none 0 0, .int .i64 0]) (t := 27) ?hr ?_; (case hd => rfl); (case hg => rfl); (case hr => first | (go_simp; done) | (go_simp; rfl))
              intro g10 hg wx19 hbox hb
              have GY10 : Aside0 (w.heap.size ≤ g10) := ⟨by rw [hg]; exact below_size HB.out⟩
              have N610 : Aside0 (g6 ≠ g10) := ⟨Nat.ne_of_lt (Nat.lt_of_lt_of_le (blk_lt Y6.out) (Nat.le_of_eq hg.symm))⟩
              replace Y3 := Aside0.mk (blk_below (g := g3) Y3.out hb)
              replace Y6 := Aside0.mk (blk_below (g := g6) Y6.out hb)
              replace Y8 := Aside0.mk (blk_below (g := g8) Y8.out hb)
              replace Y17 := Aside0.mk (blk_below (g := g17) Y17.out hb)
              have Y10 := Aside0.mk hbox
              replace HB := Aside0.mk (below_step HB.out hb)
              clear hb hbox hg
              refine hK.out _ _ ⟨(blk_cell Y3.out 0).trans rfl, (blk_cell Y3.out 1).trans rfl, (blk_cell Y3.out 2).trans rfl, (blk_cell Y8.out 0).trans rfl⟩ (fun hHeld => ?_)
              clear hK K
              refine norm_ (a' := ?_) ?_ ?_
              rotate_left
              · show Act.put _ (some 10) _ = _
                simp only [Act.put, List.setIfInBounds_toArray, List.set_cons_zero, List.set_cons_succ, i64_w, i32_w]
                rfl
              refine two_ (i := 4) (j := 6) (Ni := some 46) (Nj := some 48) #[true, true, true, true, true, true, false, false, true, true, false, true, false] #[true, true, true, true, false, true, true, false, true, true, false, true, false] rfl rfl rfl rfl (by kernel_rfl) (by decide) (by decide) (fun K hK => ?_) (fun K hK => ?_)
              · skip
                refine goes_ Try.func82 (by kernel_rfl) rfl #[.slice A0_1 l0_1.length c0_1] (by rfl) rfl rfl (by (try simp only [List.map_toArray, List.map_cons, List.map_nil]); first | done | rfl) ?_
                refine (impl_cloneLists.calls k A0_1 c0_1 l0_1 C _ (Kd.C_below HR.out HB.out) HC.out A3.out).mono ?_
                rintro e wx20 ⟨v46, rfl, ho, hb⟩
                refine ⟨_, rfl, ?_⟩
                have NE8 : Aside0 (some g8 ≠ v46.ownBlock) := ⟨fun e_ => by have h9 := Kd.R_base (Kd.S_R ho) g8 e_.symm; have h8 := blk_lt Y8.out; omega⟩
                have HS := Aside0.mk (Kd.S_lower (Kd.S_newB ho Y17.out) (below_size HB.out))
                replace Y3 := Aside0.mk (blk_below (g := g3) Y3.out hb)
                replace Y6 := Aside0.mk (blk_below (g := g6) Y6.out hb)
                replace Y8 := Aside0.mk (blk_below (g := g8) Y8.out hb)
                replace Y17 := Aside0.mk (blk_below (g := g17) Y17.out hb)
                replace Y10 := Aside0.mk (blk_below (g := g10) Y10.out hb)
                replace HB := Aside0.mk (below_step HB.out hb)
                clear ho hb
                obtain ⟨A46, c46, e46⟩ := Kd.S_slice HS.out
                subst e46
                refine hK.out _ _ ⟨(blk_cell Y3.out 0).trans rfl, (blk_cell Y3.out 1).trans rfl, (blk_cell Y3.out 2).trans rfl, (blk_cell Y8.out 0).trans rfl⟩ (fun hHeld => ?_)
                clear hK K
                refine norm_ (a' := ?_) ?_ ?_
                rotate_left
                · show Act.put _ (some 46) _ = _
                  simp only [Act.put, List.setIfInBounds_toArray, List.set_cons_zero, List.set_cons_succ, i64_w, i32_w]
                  rfl
                refine one_ (i := 6) (N := some 48) #[true, true, true, true, true, true, true, false, true, true, false, true, false] rfl rfl (by kernel_rfl) (by decide) (fun K hK => ?_)
                refine impl_WithDanger.lit_step ?hg (N := 48) ?hd (cs := #[(.slice (some ⟨g17, 0, none⟩) 2 2)]) (t := 51) (n := 1) ?hr ?_; (case hd => rfl); (case hg => rfl); (case hr => first | (go_simp; done) | (go_simp; rfl))
                intro gB hg wx21 hbox hb
                replace Y3 := Aside0.mk (blk_below (g := g3) Y3.out hb)
                replace Y6 := Aside0.mk (blk_below (g := g6) Y6.out hb)
                replace Y8 := Aside0.mk (blk_below (g := g8) Y8.out hb)
                replace Y17 := Aside0.mk (blk_below (g := g17) Y17.out hb)
                replace Y10 := Aside0.mk (blk_below (g := g10) Y10.out hb)
                replace HS := Aside0.mk (Kd.S_below HS.out hb)
                have YB := Aside0.mk hbox
                replace HB := Aside0.mk (below_step HB.out hb)
                clear hb hbox hg
                refine hK.out _ _ ⟨(blk_cell Y3.out 0).trans rfl, (blk_cell Y3.out 1).trans rfl, (blk_cell Y3.out 2).trans rfl, (blk_cell Y8.out 0).trans rfl⟩ (fun hHeld => ?_)
                clear hK K
                refine norm_ (a' := ?_) ?_ ?_
                rotate_left
                · show Act.put _ (some 48) _ = _
                  simp only [Act.put, List.setIfInBounds_toArray, List.set_cons_zero, List.set_cons_succ, i64_w, i32_w]
                  rfl
                refine one_ (i := 7) (N := some 49) #[true, true, true, true, true, true, true, true, true, true, false, true, false] rfl rfl (by kernel_rfl) (by decide) (fun K hK => ?_)
                refine impl_WithDanger.append_step (Kd.slice 3 (Kd.int .i64)) (w0 := w) w.heap.size (by rfl) (.tmp 46) (.tmp 48) 22 51 (.slice none 0 0) 24 rfl Try.underlying22 impl_WithDanger.infoS rfl rfl (by omega) (.slice A46 C.length c46) C (impl_WithDanger.dd a1 a2) gB (.slice (some ⟨g17, 0, none⟩) 2 2) (fun _ => True) (fun k_ => k_ = g17) rfl rfl YB.out ⟨_, rfl, impl_WithDanger.row2 Y17.out GY17.out⟩ (fun k_ hk_ => ⟨trivial, fun e_ => by subst hk_; exact Kd.S_ne HS.out Y17.out (by decide) e_⟩) (fun _ _ => trivial) HS.out HB.out (below_size HB.out) (by have := HCND.out.2.2; omega) ?_
                intro v49 wx22 ho hb hg
                rw [← HY.out] at ho
                replace Y3 := Aside0.mk (blk_grown (g := g3) Y3.out hg (Kd.S_ne HS.out Y3.out (by decide)))
                replace Y6 := Aside0.mk (blk_grown (g := g6) Y6.out hg (Kd.S_ne HS.out Y6.out (by decide)))
                replace Y17 := Aside0.mk (blk_grown (g := g17) Y17.out hg (Kd.S_ne HS.out Y17.out (by decide)))
                replace Y10 := Aside0.mk (blk_grown (g := g10) Y10.out hg (Kd.S_ne HS.out Y10.out (by decide)))
                replace Y8 := Aside0.mk (blk_grown (g := g8) Y8.out hg NE8.out)
                replace HS := Aside0.mk ho
                replace HB := Aside0.mk hb
                clear ho hb hg YB NE8
                obtain ⟨A49, c49, e49⟩ := Kd.S_slice HS.out
                subst e49
                refine hK.out _ _ ⟨(blk_cell Y3.out 0).trans rfl, (blk_cell Y3.out 1).trans rfl, (blk_cell Y3.out 2).trans rfl, (blk_cell Y8.out 0).trans rfl⟩ (fun hHeld => ?_)
                clear hK K
                refine norm_ (a' := ?_) ?_ ?_
                rotate_left
                · show Act.put _ (some 49) _ = _
                  simp only [Act.put, List.setIfInBounds_toArray, List.set_cons_zero, List.set_cons_succ, i64_w, i32_w]
                  rfl
                refine pure_ (i := 10) (N := some 52) (v := ?_) (a' := ?_) #[true, true, true, true, true, true, true, true, true, true, true, true, false] rfl rfl (by kernel_rfl) (fun _ _ _ h => h) (Or.inl ⟨by rfl, ?_⟩) ?_ ?_
                rotate_left
                · intro w'
                  go_simp
                  with_reducible rfl
                rotate_left
                · simp only [Act.put, List.setIfInBounds_toArray, List.set_cons_zero, List.set_cons_succ, i64_w, i32_w]
                  rfl
                exact norm_ (by simp only [putAll, Act.put, List.setIfInBounds_toArray, List.set_cons_zero, List.set_cons_succ]) (hCont (.slice A46 C.length c46,   .slice (some ⟨gB, 0, none⟩) 1 1, .slice A49 y.length c49, g10) _ ⟨hHeld, HS.out, Y6.out, Y10.out, GY10.out, N610.out, HB.out⟩)
              · skip
                refine impl_WithDanger.lit_step ?hg (N := 48) ?hd (cs := #[(.slice (some ⟨g17, 0, none⟩) 2 2)]) (t := 51) (n := 1) ?hr ?_; (case hd => rfl); (case hg => rfl); (case hr => first | (go_simp; done) | (go_simp; rfl))
                intro gB hg wx23 hbox hb
                replace Y3 := Aside0.mk (blk_below (g := g3) Y3.out hb)
                replace Y6 := Aside0.mk (blk_below (g := g6) Y6.out hb)
                replace Y8 := Aside0.mk (blk_below (g := g8) Y8.out hb)
                replace Y17 := Aside0.mk (blk_below (g := g17) Y17.out hb)
                replace Y10 := Aside0.mk (blk_below (g := g10) Y10.out hb)
                have YB := Aside0.mk hbox
                replace HB := Aside0.mk (below_step HB.out hb)
                clear hb hbox hg
                refine hK.out _ _ ⟨(blk_cell Y3.out 0).trans rfl, (blk_cell Y3.out 1).trans rfl, (blk_cell Y3.out 2).trans rfl, (blk_cell Y8.out 0).trans rfl⟩ (fun hHeld => ?_)
                clear hK K
                refine norm_ (a' := ?_) ?_ ?_
                rotate_left
                · show Act.put _ (some 48) _ = _
                  simp only [Act.put, List.setIfInBounds_toArray, List.set_cons_zero, List.set_cons_succ, i64_w, i32_w]
                  rfl
                refine one_ (i := 4) (N := some 46) #[true, true, true, true, true, true, true, false, true, true, false, true, false] rfl rfl (by kernel_rfl) (by decide) (fun K hK => ?_)
                refine goes_ Try.func82 (by kernel_rfl) rfl #[.slice A0_1 l0_1.length c0_1] (by rfl) rfl rfl (by (try simp only [List.map_toArray, List.map_cons, List.map_nil]); first | done | rfl) ?_
                refine (impl_cloneLists.calls k A0_1 c0_1 l0_1 C _ (Kd.C_below HR.out HB.out) HC.out A3.out).mono ?_
                rintro e wx24 ⟨v46, rfl, ho, hb⟩
                refine ⟨_, rfl, ?_⟩
                have NE8 : Aside0 (some g8 ≠ v46.ownBlock) := ⟨fun e_ => by have h9 := Kd.R_base (Kd.S_R ho) g8 e_.symm; have h8 := blk_lt Y8.out; omega⟩
                have HS := Aside0.mk (Kd.S_lower (Kd.S_newB ho Y17.out) (below_size HB.out))
                replace Y3 := Aside0.mk (blk_below (g := g3) Y3.out hb)
                replace Y6 := Aside0.mk (blk_below (g := g6) Y6.out hb)
                replace Y8 := Aside0.mk (blk_below (g := g8) Y8.out hb)
                replace Y17 := Aside0.mk (blk_below (g := g17) Y17.out hb)
                replace YB := Aside0.mk (blk_below (g := gB) YB.out hb)
                replace Y10 := Aside0.mk (blk_below (g := g10) Y10.out hb)
                replace HB := Aside0.mk (below_step HB.out hb)
                clear ho hb
                obtain ⟨A46, c46, e46⟩ := Kd.S_slice HS.out
                subst e46
                refine hK.out _ _ ⟨(blk_cell Y3.out 0).trans rfl, (blk_cell Y3.out 1).trans rfl, (blk_cell Y3.out 2).trans rfl, (blk_cell Y8.out 0).trans rfl⟩ (fun hHeld => ?_)
                clear hK K
                refine norm_ (a' := ?_) ?_ ?_
                rotate_left
                · show Act.put _ (some 46) _ = _
                  simp only [Act.put, List.setIfInBounds_toArray, List.set_cons_zero, List.set_cons_succ, i64_w, i32_w]
                  rfl
                refine one_ (i := 7) (N := some 49) #[true, true, true, true, true, true, true, true, true, true, false, true, false] rfl rfl (by kernel_rfl) (by decide) (fun K hK => ?_)
                refine impl_WithDanger.append_step (Kd.slice 3 (Kd.int .i64)) (w0 := w) w.heap.size (by rfl) (.tmp 46) (.tmp 48) 22 51 (.slice none 0 0) 24 rfl Try.underlying22 impl_WithDanger.infoS rfl rfl (by omega) (.slice A46 C.length c46) C (impl_WithDanger.dd a1 a2) gB (.slice (some ⟨g17, 0, none⟩) 2 2) (fun _ => True) (fun k_ => k_ = g17) rfl rfl YB.out ⟨_, rfl, impl_WithDanger.row2 Y17.out GY17.out⟩ (fun k_ hk_ => ⟨trivial, fun e_ => by subst hk_; exact Kd.S_ne HS.out Y17.out (by decide) e_⟩) (fun _ _ => trivial) HS.out HB.out (below_size HB.out) (by have := HCND.out.2.2; omega) ?_
                intro v49 wx25 ho hb hg
                rw [← HY.out] at ho
                replace Y3 := Aside0.mk (blk_grown (g := g3) Y3.out hg (Kd.S_ne HS.out Y3.out (by decide)))
                replace Y6 := Aside0.mk (blk_grown (g := g6) Y6.out hg (Kd.S_ne HS.out Y6.out (by decide)))
                replace Y17 := Aside0.mk (blk_grown (g := g17) Y17.out hg (Kd.S_ne HS.out Y17.out (by decide)))
                replace Y10 := Aside0.mk (blk_grown (g := g10) Y10.out hg (Kd.S_ne HS.out Y10.out (by decide)))
                replace Y8 := Aside0.mk (blk_grown (g := g8) Y8.out hg NE8.out)
                replace HS := Aside0.mk ho
                replace HB := Aside0.mk hb
                clear ho hb hg YB NE8
                obtain ⟨A49, c49, e49⟩ := Kd.S_slice HS.out
                subst e49
                refine hK.out _ _ ⟨(blk_cell Y3.out 0).trans rfl, (blk_cell Y3.out 1).trans rfl, (blk_cell Y3.out 2).trans rfl, (blk_cell Y8.out 0).trans rfl⟩ (fun hHeld => ?_)
                clear hK K
                refine norm_ (a' := ?_) ?_ ?_
                rotate_left
                · show Act.put _ (some 49) _ = _
                  simp only [Act.put, List.setIfInBounds_toArray, List.set_cons_zero, List.set_cons_succ, i64_w, i32_w]
                  rfl
                refine pure_ (i := 10) (N := some 52) (v := ?_) (a' := ?_) #[true, true, true, true, true, true, true, true, true, true, true, true, false] rfl rfl (by kernel_rfl) (fun _ _ _ h => h) (Or.inl ⟨by rfl, ?_⟩) ?_ ?_
                rotate_left
                · intro w'
                  go_simp
                  with_reducible rfl
                rotate_left
                · simp only [Act.put, List.setIfInBounds_toArray, List.set_cons_zero, List.set_cons_succ, i64_w, i32_w]
                  rfl
                exact norm_ (by simp only [putAll, Act.put, List.setIfInBounds_toArray, List.set_cons_zero, List.set_cons_succ]) (hCont (.slice A46 C.length c46,   .slice (some ⟨gB, 0, none⟩) 1 1, .slice A49 y.length c49, g10) _ ⟨hHeld, HS.out, Y6.out, Y10.out, GY10.out, N610.out, HB.out⟩)
          rintro ⟨v46, vB, v49, g10⟩ wE ⟨hHeld, hs_, h6_, h10_, hg_, hn_, hb_⟩
          have HS : Aside0 (Kd.S (Kd.slice 3 (Kd.int .i64)) 51 wE w.heap.size (fun _ => True) v49 y) := ⟨hs_⟩
          replace Y6 := Aside0.mk h6_
          have Y10 : Aside0 (wE.heap[g10]? = some (.cells #[.int .i64 0, .slice none 0 0, .int .i64 0] 27 (0, 0))) := ⟨h10_⟩
          have GY10 : Aside0 (w.heap.size ≤ g10) := ⟨hg_⟩
          have N610 : Aside0 (g6 ≠ g10) := ⟨hn_⟩
          replace HB := Aside0.mk hb_
          clear hs_ h6_ h10_ hg_ hn_ hb_ Y3 Y8 Y17
          obtain ⟨A49, c49, e49⟩ := Kd.S_slice HS.out
          subst e49
          refine norm_ (a' := ?_) ?_ ?_
          rotate_left
          · simp only [putAll, Act.put, List.setIfInBounds_toArray, List.set_cons_zero, List.set_cons_succ]
            rfl
          have hz0 : wE.cell? ⟨g10, 0, none⟩ = some (.int .i64 0) := (blk_cell Y10.out 0).trans rfl
          have hz1 : wE.cell? ⟨g10, 1, none⟩ = some (.slice none 0 0) := (blk_cell Y10.out 1).trans rfl
          have hz2 : wE.cell? ⟨g10, 2, none⟩ = some (.int .i64 0) := (blk_cell Y10.out 2).trans rfl
          have hf0 := blk_frozen Y10.out 0
          have hf1 := blk_frozen Y10.out 1
          have hf2 := blk_frozen Y10.out 2
          refine last_ (i := 12) (N := none) #[true, true, true, true, true, true, true, true, true, true, true, true, true] rfl rfl (by kernel_rfl) (by decide) (fun K hK => ?_)
          refine skip_ (w1 := ?_) (by rfl) rfl ?_ ?_
          rotate_left
          · go_simp
            rfl
          refine hK.out _ _ ?_
          clear hK K
          refine done_ (by kernel_rfl) ?_
          (try clear hz0 hz1 hz2 hf0 hf1 hf2)
          replace HS := Aside0.mk (Kd.S_mono (ok' := fun _ => True) (Kd.S_far (p := ⟨g10, 2, none⟩) (Kd.S_far (p := ⟨g10, 1, none⟩) (Kd.S_far (p := ⟨g10, 0, none⟩) (Kd.S_types HS.out Y10.out (by decide)) (fun _ hk => hk.2) (.int .i64 a0_0)) (fun _ hk => hk.2) (.slice A49 y.length c49)) (fun _ hk => hk.2) (.int .i64 a0_2)) (fun _ _ => trivial))
          replace Y6 := Aside0.mk (blk_far (blk_far (blk_far Y6.out (p := ⟨g10, 0, none⟩) (fun e_ => N610.out e_) (.int .i64 a0_0)) (p := ⟨g10, 1, none⟩) (fun e_ => N610.out e_) (.slice A49 y.length c49)) (p := ⟨g10, 2, none⟩) (fun e_ => N610.out e_) (.int .i64 a0_2))
          replace HB := Aside0.mk (below_set (j := 2) (v := .int .i64 a0_2) (below_set (j := 1) (v := .slice A49 y.length c49) (below_set (j := 0) (v := .int .i64 a0_0) HB.out GY10.out) GY10.out) GY10.out)
          replace Y10 : Aside0 ((((wE.setCell ⟨g10, 0, none⟩ (.int .i64 a0_0)).setCell ⟨g10, 1, none⟩ (.slice A49 y.length c49)).setCell ⟨g10, 2, none⟩ (.int .i64 a0_2)).heap[g10]? = some (.cells #[.int .i64 a0_0, .slice A49 y.length c49, .int .i64 a0_2] 27 (0, 0))) := ⟨(by refine blk_put (cs := #[.int .i64 a0_0, .slice A49 y.length c49, .int .i64 0]) ?_ 2 _ rfl; refine blk_put (cs := #[.int .i64 a0_0, .slice none 0 0, .int .i64 0]) ?_ 1 _ rfl; refine blk_put (cs := #[.int .i64 0, .slice none 0 0, .int .i64 0]) ?_ 0 _ rfl; exact Y10.out)⟩
          generalize (((wE.setCell ⟨g10, 0, none⟩ (.int .i64 a0_0)).setCell ⟨g10, 1, none⟩ (.slice A49 y.length c49)).setCell ⟨g10, 2, none⟩ (.int .i64 a0_2)) = wF at HS Y6 Y10 HB ⊢
          have hp1 : wF.cell? ⟨g10, 1, none⟩ = some (.slice A49 y.length c49) := (blk_cell Y10.out 1).trans rfl
          have HSO := Aside0.mk (impl_WithDanger.sorts y (by rw [HY.out]; simp) (by have h9 := HCND.out.2.2; rw [HY.out]; simp; omega) HCND.out.1 HCND.out.2.1 w wF (.slice A49 y.length c49) HS.out HB.out)
          go_wp2_with (go_at_call 83; refine HSO.out.mono ?_; rintro e wG ⟨rfl, hS, hb, hg⟩; replace Y10 := Aside0.mk (blk_grown (g := g10) Y10.out hg (Kd.S_ne HS.out Y10.out (by decide))); replace Y6 := Aside0.mk (blk_grown (g := g6) Y6.out hg (Kd.S_ne HS.out Y6.out (by decide))); clear HSO hp1; replace HS := Aside0.mk hS; replace HB := Aside0.mk hb; clear hS hb hg; have hp0 : wG.cell? ⟨g10, 0, none⟩ = some (.int .i64 a0_0) := (blk_cell Y10.out 0).trans rfl; have hp1 : wG.cell? ⟨g10, 1, none⟩ = some (.slice A49 y.length c49) := (blk_cell Y10.out 1).trans rfl; have hp2 : wG.cell? ⟨g10, 2, none⟩ = some (.int .i64 a0_2) := (blk_cell Y10.out 2).trans rfl; have hz60 : wG.cell? ⟨g6, 0, none⟩ = some (.int .i64 0) := (blk_cell Y6.out 0).trans rfl; have hf60 := blk_frozen Y6.out 0; have hz61 : wG.cell? ⟨g6, 1, none⟩ = some (.slice none 0 0) := (blk_cell Y6.out 1).trans rfl; have hf61 := blk_frozen Y6.out 1; have hz62 : wG.cell? ⟨g6, 2, none⟩ = some (.int .i64 0) := (blk_cell Y6.out 2).trans rfl; have hf62 := blk_frozen Y6.out 2)
          refine bodyPost_ret (results_ct rfl _ _ g6 27 #[.int .i64 a0_0, .slice A49 y.length c49, .int .i64 a0_2] (0, 0) _ rfl (by refine blk_put (cs := #[.int .i64 a0_0, .slice A49 y.length c49, .int .i64 0]) ?_ 2 _ rfl; refine blk_put (cs := #[.int .i64 a0_0, .slice none 0 0, .int .i64 0]) ?_ 1 _ rfl; refine blk_put (cs := #[.int .i64 0, .slice none 0 0, .int .i64 0]) ?_ 0 _ rfl; exact Y6.out) Try.underlying27 rfl (by kernel_rfl)) rfl ?_
          exact ⟨_, rfl, Kd.S_mono (Kd.S_far (p := ⟨g6, 2, none⟩) (Kd.S_far (p := ⟨g6, 1, none⟩) (Kd.S_far (p := ⟨g6, 0, none⟩) (Kd.S_types HS.out Y6.out (by decide)) (fun _ hk => hk.2) _) (fun _ hk => hk.2) _) (fun _ hk => hk.2) _) (fun _ _ => trivial), by repeat (first | exact HB.out | refine below_set ?_ GY6.out)⟩

end Go.Proofs.Ytomiikbcahocaaa.G
