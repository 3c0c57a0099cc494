/- Part of the proof of priced_clears_proved: Prd. -/
import Derived.Test.YtfphlpglgcmljaaGreatXcPrc
namespace Go.Proofs.YtfphlpglgcmljaaGreat
open Go.RowKit
set_option linter.unusedVariables false
set_option maxRecDepth 100000 in
set_option maxHeartbeats 16000000 in
theorem prog_rst1_more (N M x j ib tb sb ab xb zb IA TA : Nat) (c s : Int) (v rv zv : Value) (xs rs ws : List Int) (X : World) (hM : M = N + 1)
  (hi : X.heap[ib]? = some (.cells #[.slice (some ⟨IA, 0, none⟩) M M] 109 (0, 0))) (ht : X.heap[tb]? = some (.cells #[.slice (some ⟨TA, 0, none⟩) M M] 33 (0, 0)))
  (hia : X.heap[IA]? = some (.cells ((isLz N xs x s M).map Value.bool).toArray 4 (0, 0))) (hta : X.heap[TA]? = some (.cells ((atLz N xs x s M).map (Value.int .i64)).toArray 2 (0, 0)))
  (hs : X.heap[sb]? = some (.cells #[.int .i64 s] 2 (0, 0))) (ha : X.heap[ab]? = some (.cells #[.int .i64 N, zv] 32 (0, 0))) (hx : X.heap[xb]? = some (.cells #[.int .i64 x] 3 (0, 0))) (hz : X.heap[zb]? = some (.cells #[.int .i64 N, v, .int .i64 c, rv] 35 (0, 0)))
  (hv : RL X.heap.size X v xs) (hr : RL X.heap.size X rv rs) (hzv : RL X.heap.size X zv ws) (hok : OkZ N xs) (hlr : rs.length = N) (hx1 : 1 ≤ x) (hxN : x ≤ N) (hj : j ≤ N) (hjc : 1 ≤ j) :
  Calls Tryz.prog 74 #[.int .i64 j, .pointer (some ⟨ib, 0, none⟩), .pointer (some ⟨tb, 0, none⟩), .pointer (some ⟨sb, 0, none⟩), .pointer (some ⟨ab, 0, none⟩), .pointer (some ⟨xb, 0, none⟩), .pointer (some ⟨zb, 0, none⟩)] X fun e w' => PO X.heap.size (rG N xs c rs ws x s j) e w' ∧ Below X.heap.size X w' := by
 have hN : N ≤ 10 := by have := hok.hi; omega
 have HMN := Lib.hid hM
 have hjM : j < M := by omega
 have hM11 : M ≤ 11 := by omega
 have Hv := Lib.hid hv
 have Hr := Lib.hid hr
 have Hzv := Lib.hid hzv
 have Hok := Lib.hid hok
 have Hlr := Lib.hid hlr
 obtain ⟨ao, cap, rfl, hle, _⟩ := hv.open
 obtain ⟨aor, capr, rfl, hler, _⟩ := hr.open
 obtain ⟨ao2, cap2, rfl, hle2, _⟩ := hzv.open
 have HBi := Lib.hid hi
 have HBt := Lib.hid ht
 have HBI := Lib.hid hia
 have HBT := Lib.hid hta
 have HBs := Lib.hid hs
 have HBa := Lib.hid ha
 have HBx := Lib.hid hx
 have HBz := Lib.hid hz
 have HW := Lib.hid (Below.refl X.heap.size X)
 have hl0i := hp_lt3 hi
 have hl0t := hp_lt3 ht
 have hl0I := hp_lt3 hia
 have hl0T := hp_lt3 hta
 have hl0s := hp_lt3 hs
 have hl0a := hp_lt3 ha
 have hl0x := hp_lt3 hx
 have hl0z := hp_lt3 hz
 have hl0r : True := trivial
 have j0 : (j : Int) < (M : Int) := by omega
 have j1 : (0 : Int) ≤ (j : Int) := by omega
 have HJC := Lib.hid hjc
 clear hjc hv hr hzv hok hlr hi ht hia hta hs ha hx hz hM
 go_enter Tryz.func74, Tryz.ntmps74
 have hba := (Below.refl _ X).alloc (Nat.le_refl _) (.cells #[.int .i64 0, .slice none 0 0, .int .i64 0, .slice none 0 0] 35)
 have hqn := heap_alloc_new X (.cells #[.int .i64 0, .slice none 0 0, .int .i64 0, .slice none 0 0] 35)
 have hqW := HW.out.size
 have hli : ib < X.heap.size := hp_lt3 HBi.out
 have hqi := hp_keep4 HBi.out hba
 have hlt : tb < X.heap.size := hp_lt3 HBt.out
 have hqt := hp_keep4 HBt.out hba
 have hlI : IA < X.heap.size := hp_lt3 HBI.out
 have hqI := hp_keep4 HBI.out hba
 have hlT : TA < X.heap.size := hp_lt3 HBT.out
 have hqT := hp_keep4 HBT.out hba
 have hls : sb < X.heap.size := hp_lt3 HBs.out
 have hqs := hp_keep4 HBs.out hba
 have hla : ab < X.heap.size := hp_lt3 HBa.out
 have hqa := hp_keep4 HBa.out hba
 have hlx : xb < X.heap.size := hp_lt3 HBx.out
 have hqx := hp_keep4 HBx.out hba
 have hlz : zb < X.heap.size := hp_lt3 HBz.out
 have hqz := hp_keep4 HBz.out hba
 have hqw := bt HW.out hba
 clear hba HW HBi HBt HBI HBT HBs HBa HBx HBz
 go_upto_region 1 with fail
 generalize hgen : X.alloc (.cells #[.int .i64 0, .slice none 0 0, .int .i64 0, .slice none 0 0] 35) = X0 at *
 clear hgen
 have HBr := Lib.hid hqn
 have HBi := Lib.hid hqi
 have HBt := Lib.hid hqt
 have HBI := Lib.hid hqI
 have HBT := Lib.hid hqT
 have HBs := Lib.hid hqs
 have HBa := Lib.hid hqa
 have HBx := Lib.hid hqx
 have HBz := Lib.hid hqz
 have HW := Lib.hid hqw
 clear hqn hqw hqi hqt hqI hqT hqs hqa hqx hqz
 have i0 : X0.cell? ⟨ib, 0, none⟩ = some (.slice (some ⟨IA, 0, none⟩) M M) := cell_of_row _ (ib) 0 _ _ _ HBi.out
 have i9 : X0.cell? ⟨IA, j, none⟩ = some (.bool (isF N xs x s j)) := row_at HBI.out (isLz_at hjM)
 by_cases hij : isF N xs x s j = true
 rotate_left
 ·have hij' : isF N xs x s j = false := by simpa using hij
  have HG := Lib.hid (rG_no (c := c) (rs := rs) (ws := ws) hij')
  rw [hij'] at i9
  clear hij hij'
  have t0 : X0.cell? ⟨X.heap.size, 0, none⟩ = some (.int .i64 0) := cell_of_row _ (X.heap.size) 0 _ _ _ HBr.out
  have tf0 : X0.frozen? ⟨X.heap.size, 0, none⟩ = false := frozen_of_row _ (X.heap.size) 0 _ _ HBr.out
  have t1 : X0.cell? ⟨X.heap.size, 1, none⟩ = some (.slice none 0 0) := cell_of_row _ (X.heap.size) 1 _ _ _ HBr.out
  have tf1 : X0.frozen? ⟨X.heap.size, 1, none⟩ = false := frozen_of_row _ (X.heap.size) 1 _ _ HBr.out
  have t2 : X0.cell? ⟨X.heap.size, 2, none⟩ = some (.int .i64 0) := cell_of_row _ (X.heap.size) 2 _ _ _ HBr.out
  have tf2 : X0.frozen? ⟨X.heap.size, 2, none⟩ = false := frozen_of_row _ (X.heap.size) 2 _ _ HBr.out
  have t3 : X0.cell? ⟨X.heap.size, 3, none⟩ = some (.slice none 0 0) := cell_of_row _ (X.heap.size) 3 _ _ _ HBr.out
  have tf3 : X0.frozen? ⟨X.heap.size, 3, none⟩ = false := frozen_of_row _ (X.heap.size) 3 _ _ HBr.out
  go_wp2_with fail
  refine bodyPost_ret (v := .tuple #[.agg #[.int .i64 0, .slice none 0 0, .int .i64 0, .slice none 0 0], .int .i64 4]) (by simp [results, Tryz.results74, go_sem, t0, t1, t2, t3]) rfl ⟨by rw [HG.out]; exact PO.err rfl _, ?_⟩
  exact ((((HW.out).setCell (by show X.heap.size ≤ X.heap.size; omega) _).setCell (by show X.heap.size ≤ X.heap.size; omega) _).setCell (by show X.heap.size ≤ X.heap.size; omega) _).setCell (by show X.heap.size ≤ X.heap.size; omega) _
 rw [hij] at i9
 have HIJ := Lib.hid hij
 clear hij
 have t0 : X0.cell? ⟨tb, 0, none⟩ = some (.slice (some ⟨TA, 0, none⟩) M M) := cell_of_row _ (tb) 0 _ _ _ HBt.out
 go_wp2_with fail
 go_loopw [24, 10] (fun i u wr => ∃ k : Nat, k ≤ M ∧ i = .int .i64 k ∧ OK3 98 (X.heap.size + 1) wr u (rkTo N xs x s j k) ∧ wr.heap[ib]? = some (.cells #[.slice (some ⟨IA, 0, none⟩) M M] 109 (0, 0)) ∧ wr.heap[tb]? = some (.cells #[.slice (some ⟨TA, 0, none⟩) M M] 33 (0, 0)) ∧ wr.heap[IA]? = some (.cells ((isLz N xs x s M).map Value.bool).toArray 4 (0, 0)) ∧ wr.heap[TA]? = some (.cells ((atLz N xs x s M).map (Value.int .i64)).toArray 2 (0, 0)) ∧ wr.heap[sb]? = some (.cells #[.int .i64 s] 2 (0, 0)) ∧ wr.heap[ab]? = some (.cells #[.int .i64 N, .slice ao2 ws.length cap2] 32 (0, 0)) ∧ wr.heap[xb]? = some (.cells #[.int .i64 x] 3 (0, 0)) ∧ wr.heap[zb]? = some (.cells #[.int .i64 N, .slice ao xs.length cap, .int .i64 c, .slice aor rs.length capr] 35 (0, 0)) ∧ wr.heap[X.heap.size]? = some (.cells #[.int .i64 0, .slice none 0 0, .int .i64 0, .slice none 0 0] 35 (0, 0)) ∧ Below X.heap.size X wr) (fun i _ _ => M - (intOf i).toNat)
 case atStart => exact ⟨0, Nat.zero_le _, rfl, ⟨rfl, .inl ⟨rfl, rfl⟩⟩, HBi.out, HBt.out, HBI.out, HBT.out, HBs.out, HBa.out, HBx.out, HBz.out, HBr.out, HW.out⟩
 case round =>
  clear i0 i9 t0 HW HBi HBt HBI HBT HBs HBa HBx HBz HBr
  obtain ⟨k, hk, rfl, hk3, hi, ht, hI, hT, hs, ha, hx, hz, hr, hw⟩ := hrel
  have HK := Lib.hid hk3
  have HW := Lib.hid hw
  have HBi := Lib.hid hi
  have HBt := Lib.hid ht
  have HBI := Lib.hid hI
  have HBT := Lib.hid hT
  have HBs := Lib.hid hs
  have HBa := Lib.hid ha
  have HBx := Lib.hid hx
  have HBz := Lib.hid hz
  have HBr := Lib.hid hr
  obtain ⟨aok, nk, capk, rfl⟩ := owns_form3n hk3
  clear hk3 hw hi ht hI hT hs ha hx hz hr
  by_cases hkM : k < M
  ·have htk : decide ((k : Int) < (M : Int)) = true := by simp; omega
   have k0 : (k : Int) < (M : Int) := by omega
   have k1 : (0 : Int) ≤ (k : Int) := by omega
   by_cases hkj : k = j
   ·subst hkj
    have heq : ((k : Int) == (k : Int)) = true := by simp
    have HK2 := HK
    rw [← rkTo_same (.inl rfl)] at HK2
    go_wp2_with fail
    go_roundw
    case rel => exact ⟨k + 1, by omega, by go_num, HK2.out, HBi.out, HBt.out, HBI.out, HBT.out, HBs.out, HBa.out, HBx.out, HBz.out, HBr.out, HW.out⟩
    case measure => simp [intOf]; omega
   have heq : ((k : Int) == (j : Int)) = false := by simp; omega
   have i0 : wr.cell? ⟨ib, 0, none⟩ = some (.slice (some ⟨IA, 0, none⟩) M M) := cell_of_row _ (ib) 0 _ _ _ HBi.out
   have i9 : wr.cell? ⟨IA, k, none⟩ = some (.bool (isF N xs x s k)) := row_at HBI.out (isLz_at hkM)
   by_cases hik : isF N xs x s k = true
   rotate_left
   ·have hik' : isF N xs x s k = false := by simpa using hik
    rw [hik'] at i9
    have HK2 := HK
    rw [← rkTo_same (.inr hik')] at HK2
    clear hik hik'
    go_wp2_with fail
    go_roundw
    case rel => exact ⟨k + 1, by omega, by go_num, HK2.out, HBi.out, HBt.out, HBI.out, HBT.out, HBs.out, HBa.out, HBx.out, HBz.out, HBr.out, HW.out⟩
    case measure => simp [intOf]; omega
   rw [hik] at i9
   have s0 : wr.cell? ⟨sb, 0, none⟩ = some (.int .i64 s) := cell_of_row _ (sb) 0 _ _ _ HBs.out
   have t0 : wr.cell? ⟨tb, 0, none⟩ = some (.slice (some ⟨TA, 0, none⟩) M M) := cell_of_row _ (tb) 0 _ _ _ HBt.out
   have ak : wr.cell? ⟨TA, k, none⟩ = some (.int .i64 (atF N xs x s k)) := row_at HBT.out (atLz_at hkM)
   have aj : wr.cell? ⟨TA, j, none⟩ = some (.int .i64 (atF N xs x s j)) := row_at HBT.out (atLz_at hjM)
   have bk := at_bd Hok.out (x := x) (j := k) hxN (by have := HMN.out; omega) s
   have bj := at_bd Hok.out (x := x) (j := j) hxN hj s
   have Hik := Lib.hid hik
   clear hik
   obtain ⟨Ak, hAk⟩ : ∃ A, atF N xs x s k = A := ⟨_, rfl⟩
   obtain ⟨Aj, hAj⟩ : ∃ A, atF N xs x s j = A := ⟨_, rfl⟩
   rw [hAk] at bk ak
   rw [hAj] at bj aj
   have HAk := Lib.hid hAk
   have HAj := Lib.hid hAj
   clear hAk hAj
   by_cases hs : s < 0
   ·have hsb : decide (s < 0) = true := by simpa using hs
    have HM := Lib.hid (rkTo_neg (N := N) (xs := xs) (x := x) hkj Hik.out hs)
    rw [HAk.out, HAj.out] at HM
    have hsub : IntKind.i64.wrap (Ak - Aj) = Ak - Aj := wrap_self (by omega)
    have hsub2 : wrap64 (Ak - Aj) = Ak - Aj := (wrap_w64 _).trans hsub
    clear hs
    go_upto_region 10 with fail
    refine wp_region_noPanic ?_
    refine wp_region_held_drew (S := (fun w' => w'.cell? ⟨tb, 0, none⟩ = some (.slice (some ⟨TA, 0, none⟩) M M) ∧ w'.cell? ⟨TA, k, none⟩ = some (.int .i64 Ak) ∧ w'.cell? ⟨TA, j, none⟩ = some (.int .i64 Aj))) (by kernel_rfl) ⟨t0, ak, aj⟩ (fun hHeld => ?_)
    refine wpAnyH_take (i := 0) (v := ?_) rfl (by kernel_rfl) (by kernel_rfl) (by kernel_rfl) (fun _ _ _ h => h) (Or.inl ⟨by rfl, ?_⟩) (by assumption) ?_
    rotate_left
    ·intro w hSw; (try dsimp only at hSw); go_simp; (try with_reducible rfl)
    try simp only [Act.put, List.getElem_toArray, List.getElem_cons_zero, List.setIfInBounds_toArray, List.set_cons_zero, List.set_cons_succ]
    refine wpAnyH_take (i := 1) (v := ?_) rfl (by kernel_rfl) (by kernel_rfl) (by kernel_rfl) (fun _ _ _ h => h) (Or.inl ⟨by rfl, ?_⟩) (by assumption) ?_
    rotate_left
    ·intro w hSw; (try dsimp only at hSw); go_simp; (try with_reducible rfl)
    try simp only [Act.put, List.getElem_toArray, List.getElem_cons_zero, List.getElem_cons_succ, List.setIfInBounds_toArray, List.set_cons_zero, List.set_cons_succ]
    refine wpAnyH_take (i := 2) (v := ?_) rfl (by kernel_rfl) (by kernel_rfl) (by kernel_rfl) (fun _ _ _ h => h) (Or.inl ⟨by rfl, ?_⟩) (by assumption) ?_
    rotate_left
    ·intro w hSw; (try dsimp only at hSw); go_simp; (try with_reducible rfl)
    try simp only [Act.put, List.getElem_toArray, List.getElem_cons_zero, List.getElem_cons_succ, List.setIfInBounds_toArray, List.set_cons_zero, List.set_cons_succ]
    refine wpAnyH_take (i := 3) (v := ?_) rfl (by kernel_rfl) (by kernel_rfl) (by kernel_rfl) (fun _ _ _ h => h) (Or.inl ⟨by rfl, ?_⟩) (by assumption) ?_
    rotate_left
    ·intro w hSw; (try dsimp only at hSw); go_simp; (try with_reducible rfl)
    try simp only [Act.put, List.getElem_toArray, List.getElem_cons_zero, List.getElem_cons_succ, List.setIfInBounds_toArray, List.set_cons_zero, List.set_cons_succ]
    refine wpAnyH_take (i := 4) (v := ?_) rfl (by kernel_rfl) (by kernel_rfl) (by kernel_rfl) (fun _ _ _ h => h) (Or.inl ⟨by rfl, ?_⟩) (by assumption) ?_
    rotate_left
    ·intro w hSw; (try dsimp only at hSw); go_simp; (try with_reducible rfl)
    try simp only [Act.put, List.getElem_toArray, List.getElem_cons_zero, List.getElem_cons_succ, List.setIfInBounds_toArray, List.set_cons_zero, List.set_cons_succ]
    refine wpAnyH_take (i := 5) (v := ?_) rfl (by kernel_rfl) (by kernel_rfl) (by kernel_rfl) (fun _ _ _ h => h) (Or.inl ⟨by rfl, ?_⟩) (by assumption) ?_
    rotate_left
    ·intro w hSw; (try dsimp only at hSw); go_simp; (try with_reducible rfl)
    try simp only [Act.put, List.getElem_toArray, List.getElem_cons_zero, List.getElem_cons_succ, List.setIfInBounds_toArray, List.set_cons_zero, List.set_cons_succ]
    refine wpAnyH_take (i := 6) (v := ?_) rfl (by kernel_rfl) (by kernel_rfl) (by kernel_rfl) (fun _ _ _ h => h) (Or.inl ⟨by rfl, ?_⟩) (by assumption) ?_
    rotate_left
    ·intro w hSw; (try dsimp only at hSw); go_simp; (try with_reducible rfl)
    try simp only [Act.put, List.getElem_toArray, List.getElem_cons_zero, List.getElem_cons_succ, List.setIfInBounds_toArray, List.set_cons_zero, List.set_cons_succ]
    refine wpAnyH_take (i := 7) (v := ?_) rfl (by kernel_rfl) (by kernel_rfl) (by kernel_rfl) (fun _ _ _ h => h) (Or.inl ⟨by rfl, ?_⟩) (by assumption) ?_
    rotate_left
    ·intro w hSw; (try dsimp only at hSw); go_simp; (try with_reducible rfl)
    try simp only [Act.put, List.getElem_toArray, List.getElem_cons_zero, List.getElem_cons_succ, List.setIfInBounds_toArray, List.set_cons_zero, List.set_cons_succ]
    refine wpAnyH_take (i := 8) (v := ?_) rfl (by kernel_rfl) (by kernel_rfl) (by kernel_rfl) (fun _ _ _ h => h) (Or.inl ⟨by rfl, ?_⟩) (by assumption) ?_
    rotate_left
    ·intro w hSw; (try dsimp only at hSw); go_simp; (try with_reducible rfl)
    try simp only [Act.put, List.getElem_toArray, List.getElem_cons_zero, List.getElem_cons_succ, List.setIfInBounds_toArray, List.set_cons_zero, List.set_cons_succ]
    refine wpAnyH_take (i := 9) (v := ?_) rfl (by kernel_rfl) (by kernel_rfl) (by kernel_rfl) (fun _ _ _ h => h) (Or.inl ⟨by rfl, ?_⟩) (by assumption) ?_
    rotate_left
    ·intro w hSw; (try dsimp only at hSw); go_simp; (try with_reducible rfl)
    try simp only [Act.put, List.getElem_toArray, List.getElem_cons_zero, List.getElem_cons_succ, List.setIfInBounds_toArray, List.set_cons_zero, List.set_cons_succ]
    refine wpAnyH_take (i := 10) (v := ?_) rfl (by kernel_rfl) (by kernel_rfl) (by kernel_rfl) (fun _ _ _ h => h) (Or.inl ⟨by rfl, ?_⟩) (by assumption) ?_
    rotate_left
    ·intro w hSw; (try dsimp only at hSw); go_simp; (try with_reducible rfl)
    try simp only [Act.put, List.getElem_toArray, List.getElem_cons_zero, List.getElem_cons_succ, List.setIfInBounds_toArray, List.set_cons_zero, List.set_cons_succ]
    refine wpAnyH_take (i := 11) (v := ?_) rfl (by kernel_rfl) (by kernel_rfl) (by kernel_rfl) (fun _ _ _ h => h) (Or.inl ⟨by rfl, ?_⟩) (by assumption) ?_
    rotate_left
    ·intro w hSw; (try dsimp only at hSw); go_simp; (try with_reducible rfl)
    try simp only [Act.put, List.getElem_toArray, List.getElem_cons_zero, List.getElem_cons_succ, List.setIfInBounds_toArray, List.set_cons_zero, List.set_cons_succ]
    have hb : Below wr.heap.size wr wr.drew := (Below.refl _ _).drew
    clear hHeld t0 ak aj i0 i9 s0
    replace HBi := Lib.hid (hp_keep4 HBi.out hb)
    replace HBt := Lib.hid (hp_keep4 HBt.out hb)
    replace HBI := Lib.hid (hp_keep4 HBI.out hb)
    replace HBT := Lib.hid (hp_keep4 HBT.out hb)
    replace HBs := Lib.hid (hp_keep4 HBs.out hb)
    replace HBa := Lib.hid (hp_keep4 HBa.out hb)
    replace HBx := Lib.hid (hp_keep4 HBx.out hb)
    replace HBz := Lib.hid (hp_keep4 HBz.out hb)
    replace HBr := Lib.hid (hp_keep4 HBr.out hb)
    replace HK := Lib.hid (OK3.keepw HK.out hb)
    replace HW := Lib.hid (bt HW.out hb)
    clear hb
    generalize wr.drew = X3 at *
    refine wpAnyH_ready (rs := [12]) (by kernel_rfl) (by simp) ?_
    refine AllReadyH.cons rfl (fun K hK => ?_) AllReadyH.nil
    go_simp
    refine (prog_weak j k (Ak - Aj) _ (by omega) (by omega)).mono ?_
    rintro e w5 ⟨rfl, hb⟩
    replace HBi := Lib.hid (hp_keep4 HBi.out hb)
    replace HBt := Lib.hid (hp_keep4 HBt.out hb)
    replace HBI := Lib.hid (hp_keep4 HBI.out hb)
    replace HBT := Lib.hid (hp_keep4 HBT.out hb)
    replace HBs := Lib.hid (hp_keep4 HBs.out hb)
    replace HBa := Lib.hid (hp_keep4 HBa.out hb)
    replace HBx := Lib.hid (hp_keep4 HBx.out hb)
    replace HBz := Lib.hid (hp_keep4 HBz.out hb)
    replace HBr := Lib.hid (hp_keep4 HBr.out hb)
    replace HK := Lib.hid (OK3.keepw HK.out hb)
    replace HW := Lib.hid (bt HW.out hb)
    clear hb
    refine hK.out _ _ ⟨cell_of_row _ tb 0 _ _ _ HBt.out, ((row_at HBT.out (atLz_at hkM)).trans (congrArg (fun t => some (Value.int .i64 t)) HAk.out)), ((row_at HBT.out (atLz_at hjM)).trans (congrArg (fun t => some (Value.int .i64 t)) HAj.out))⟩ (fun hHeld2 => ?_)
    clear hK K
    try simp only [Act.put, List.getElem_toArray, List.getElem_cons_zero, List.getElem_cons_succ, List.setIfInBounds_toArray, List.set_cons_zero, List.set_cons_succ]
    have hba := (Below.refl _ w5).alloc (Nat.le_refl _) (.cells #[.int .i64 j, .int .i64 k, .int .i64 (2 * (Ak - Aj) + 1)] 98)
    clear hHeld2
    have htA := hp_keep4 HBt.out hba
    have hTA := hp_keep4 HBT.out hba
    refine wpAnyH_ready (rs := [13]) (by kernel_rfl) (by simp) ?_
    refine AllReadyH.cons rfl (fun K hK => ?_) AllReadyH.nil
    go_simp
    refine hK.out _ _ ⟨cell_of_row _ tb 0 _ _ _ htA, ((row_at hTA (atLz_at hkM)).trans (congrArg (fun t => some (Value.int .i64 t)) HAk.out)), ((row_at hTA (atLz_at hjM)).trans (congrArg (fun t => some (Value.int .i64 t)) HAj.out))⟩ (fun hHeld2 => ?_)
    clear hK K
    try simp only [Act.put, List.getElem_toArray, List.getElem_cons_zero, List.getElem_cons_succ, List.setIfInBounds_toArray, List.set_cons_zero, List.set_cons_succ]
    have hRl : X.heap.size + 1 ≤ w5.heap.size := hp_lt3 HBr.out
    clear hHeld2 htA hTA hba
    refine wpAnyH_ready (rs := [14]) (by kernel_rfl) (by simp) ?_
    refine AllReadyH.cons rfl (fun K hK => ?_) AllReadyH.nil
    refine step_append_k rfl (.tmp 56) (.tmp 69) 96 rfl 98 Tryz.undKs Tryz.infoK (X.heap.size + 1) (.slice aok nk capk) rfl (rkTo N xs x s j k) (World.ownsRow.alloc HK.out _) (by simp; omega) (.slice (some ⟨w5.heap.size, 0, none⟩) 1 1) rfl [wk j k (Ak - Aj)] (w5.heap.size + 1) (rs_lit3 (w := w5) rfl rfl (by simp)) (by have := rkTo_len N xs x s j k; have := HMN.out; simp only [List.length_cons, List.length_nil]; omega) ?_
    intro v' w6 ho' hg'
    have hgb := fun g e => (World.ownsRow.lt HK.out g e).1
    replace HBi := Lib.hid (hp_app HBi.out hg' hgb (by have := hl0i; omega))
    replace HBt := Lib.hid (hp_app HBt.out hg' hgb (by have := hl0t; omega))
    replace HBI := Lib.hid (hp_app HBI.out hg' hgb (by have := hl0I; omega))
    replace HBT := Lib.hid (hp_app HBT.out hg' hgb (by have := hl0T; omega))
    replace HBs := Lib.hid (hp_app HBs.out hg' hgb (by have := hl0s; omega))
    replace HBa := Lib.hid (hp_app HBa.out hg' hgb (by have := hl0a; omega))
    replace HBx := Lib.hid (hp_app HBx.out hg' hgb (by have := hl0x; omega))
    replace HBz := Lib.hid (hp_app HBz.out hg' hgb (by have := hl0z; omega))
    replace HBr := Lib.hid (hp_app HBr.out hg' hgb (by have := hl0r; omega))
    replace HW := Lib.hid (bw_app HW.out hg' hgb (by omega))
    clear hgb hg'
    refine hK.out _ _ ⟨cell_of_row _ tb 0 _ _ _ HBt.out, ((row_at HBT.out (atLz_at hkM)).trans (congrArg (fun t => some (Value.int .i64 t)) HAk.out)), ((row_at HBT.out (atLz_at hjM)).trans (congrArg (fun t => some (Value.int .i64 t)) HAj.out))⟩ (fun hHeld2 => ?_)
    clear hK K
    try simp only [Act.put, List.getElem_toArray, List.getElem_cons_zero, List.getElem_cons_succ, List.setIfInBounds_toArray, List.set_cons_zero, List.set_cons_succ]
    refine wpAnyH_take (i := 15) (v := ?_) rfl (by kernel_rfl) (by kernel_rfl) (by kernel_rfl) (fun _ _ _ h => h) (Or.inl ⟨by rfl, ?_⟩) (by assumption) ?_
    rotate_left
    ·intro w hSw; (try dsimp only at hSw); go_simp; (try with_reducible rfl)
    try simp only [Act.put, List.getElem_toArray, List.getElem_cons_zero, List.getElem_cons_succ, List.setIfInBounds_toArray, List.set_cons_zero, List.set_cons_succ]
    refine wpAnyH_done (by kernel_rfl) ?_ _
    refine NoPanic.normal ?_
    have HK2 := Lib.hid ho'
    rw [← HM.out] at HK2
    go_wp2_with fail
    go_roundw
    case rel => exact ⟨k + 1, by omega, by go_num, HK2.out, HBi.out, HBt.out, HBI.out, HBT.out, HBs.out, HBa.out, HBx.out, HBz.out, HBr.out, HW.out⟩
    case measure => simp [intOf]; omega
   have hsb : decide (s < 0) = false := by simpa using hs
   have HM := Lib.hid (rkTo_pos (N := N) (xs := xs) (x := x) hkj Hik.out hs)
   rw [HAk.out, HAj.out] at HM
   have hsub : IntKind.i64.wrap (Aj - Ak) = Aj - Ak := wrap_self (by omega)
   have hsub2 : wrap64 (Aj - Ak) = Aj - Ak := (wrap_w64 _).trans hsub
   clear hs
   go_upto_region 7 with fail
   refine wp_region_noPanic ?_
   refine wp_region_held_drew (S := (fun w' => w'.cell? ⟨tb, 0, none⟩ = some (.slice (some ⟨TA, 0, none⟩) M M) ∧ w'.cell? ⟨TA, k, none⟩ = some (.int .i64 Ak) ∧ w'.cell? ⟨TA, j, none⟩ = some (.int .i64 Aj))) (by kernel_rfl) ⟨t0, ak, aj⟩ (fun hHeld => ?_)
   refine wpAnyH_take (i := 0) (v := ?_) rfl (by kernel_rfl) (by kernel_rfl) (by kernel_rfl) (fun _ _ _ h => h) (Or.inl ⟨by rfl, ?_⟩) (by assumption) ?_
   rotate_left
   ·intro w hSw; (try dsimp only at hSw); go_simp; (try with_reducible rfl)
   try simp only [Act.put, List.getElem_toArray, List.getElem_cons_zero, List.setIfInBounds_toArray, List.set_cons_zero, List.set_cons_succ]
   refine wpAnyH_take (i := 1) (v := ?_) rfl (by kernel_rfl) (by kernel_rfl) (by kernel_rfl) (fun _ _ _ h => h) (Or.inl ⟨by rfl, ?_⟩) (by assumption) ?_
   rotate_left
   ·intro w hSw; (try dsimp only at hSw); go_simp; (try with_reducible rfl)
   try simp only [Act.put, List.getElem_toArray, List.getElem_cons_zero, List.getElem_cons_succ, List.setIfInBounds_toArray, List.set_cons_zero, List.set_cons_succ]
   refine wpAnyH_take (i := 2) (v := ?_) rfl (by kernel_rfl) (by kernel_rfl) (by kernel_rfl) (fun _ _ _ h => h) (Or.inl ⟨by rfl, ?_⟩) (by assumption) ?_
   rotate_left
   ·intro w hSw; (try dsimp only at hSw); go_simp; (try with_reducible rfl)
   try simp only [Act.put, List.getElem_toArray, List.getElem_cons_zero, List.getElem_cons_succ, List.setIfInBounds_toArray, List.set_cons_zero, List.set_cons_succ]
   refine wpAnyH_take (i := 3) (v := ?_) rfl (by kernel_rfl) (by kernel_rfl) (by kernel_rfl) (fun _ _ _ h => h) (Or.inl ⟨by rfl, ?_⟩) (by assumption) ?_
   rotate_left
   ·intro w hSw; (try dsimp only at hSw); go_simp; (try with_reducible rfl)
   try simp only [Act.put, List.getElem_toArray, List.getElem_cons_zero, List.getElem_cons_succ, List.setIfInBounds_toArray, List.set_cons_zero, List.set_cons_succ]
   refine wpAnyH_take (i := 4) (v := ?_) rfl (by kernel_rfl) (by kernel_rfl) (by kernel_rfl) (fun _ _ _ h => h) (Or.inl ⟨by rfl, ?_⟩) (by assumption) ?_
   rotate_left
   ·intro w hSw; (try dsimp only at hSw); go_simp; (try with_reducible rfl)
   try simp only [Act.put, List.getElem_toArray, List.getElem_cons_zero, List.getElem_cons_succ, List.setIfInBounds_toArray, List.set_cons_zero, List.set_cons_succ]
   refine wpAnyH_take (i := 5) (v := ?_) rfl (by kernel_rfl) (by kernel_rfl) (by kernel_rfl) (fun _ _ _ h => h) (Or.inl ⟨by rfl, ?_⟩) (by assumption) ?_
   rotate_left
   ·intro w hSw; (try dsimp only at hSw); go_simp; (try with_reducible rfl)
   try simp only [Act.put, List.getElem_toArray, List.getElem_cons_zero, List.getElem_cons_succ, List.setIfInBounds_toArray, List.set_cons_zero, List.set_cons_succ]
   refine wpAnyH_take (i := 6) (v := ?_) rfl (by kernel_rfl) (by kernel_rfl) (by kernel_rfl) (fun _ _ _ h => h) (Or.inl ⟨by rfl, ?_⟩) (by assumption) ?_
   rotate_left
   ·intro w hSw; (try dsimp only at hSw); go_simp; (try with_reducible rfl)
   try simp only [Act.put, List.getElem_toArray, List.getElem_cons_zero, List.getElem_cons_succ, List.setIfInBounds_toArray, List.set_cons_zero, List.set_cons_succ]
   refine wpAnyH_take (i := 7) (v := ?_) rfl (by kernel_rfl) (by kernel_rfl) (by kernel_rfl) (fun _ _ _ h => h) (Or.inl ⟨by rfl, ?_⟩) (by assumption) ?_
   rotate_left
   ·intro w hSw; (try dsimp only at hSw); go_simp; (try with_reducible rfl)
   try simp only [Act.put, List.getElem_toArray, List.getElem_cons_zero, List.getElem_cons_succ, List.setIfInBounds_toArray, List.set_cons_zero, List.set_cons_succ]
   refine wpAnyH_take (i := 8) (v := ?_) rfl (by kernel_rfl) (by kernel_rfl) (by kernel_rfl) (fun _ _ _ h => h) (Or.inl ⟨by rfl, ?_⟩) (by assumption) ?_
   rotate_left
   ·intro w hSw; (try dsimp only at hSw); go_simp; (try with_reducible rfl)
   try simp only [Act.put, List.getElem_toArray, List.getElem_cons_zero, List.getElem_cons_succ, List.setIfInBounds_toArray, List.set_cons_zero, List.set_cons_succ]
   refine wpAnyH_take (i := 9) (v := ?_) rfl (by kernel_rfl) (by kernel_rfl) (by kernel_rfl) (fun _ _ _ h => h) (Or.inl ⟨by rfl, ?_⟩) (by assumption) ?_
   rotate_left
   ·intro w hSw; (try dsimp only at hSw); go_simp; (try with_reducible rfl)
   try simp only [Act.put, List.getElem_toArray, List.getElem_cons_zero, List.getElem_cons_succ, List.setIfInBounds_toArray, List.set_cons_zero, List.set_cons_succ]
   refine wpAnyH_take (i := 10) (v := ?_) rfl (by kernel_rfl) (by kernel_rfl) (by kernel_rfl) (fun _ _ _ h => h) (Or.inl ⟨by rfl, ?_⟩) (by assumption) ?_
   rotate_left
   ·intro w hSw; (try dsimp only at hSw); go_simp; (try with_reducible rfl)
   try simp only [Act.put, List.getElem_toArray, List.getElem_cons_zero, List.getElem_cons_succ, List.setIfInBounds_toArray, List.set_cons_zero, List.set_cons_succ]
   refine wpAnyH_take (i := 11) (v := ?_) rfl (by kernel_rfl) (by kernel_rfl) (by kernel_rfl) (fun _ _ _ h => h) (Or.inl ⟨by rfl, ?_⟩) (by assumption) ?_
   rotate_left
   ·intro w hSw; (try dsimp only at hSw); go_simp; (try with_reducible rfl)
   try simp only [Act.put, List.getElem_toArray, List.getElem_cons_zero, List.getElem_cons_succ, List.setIfInBounds_toArray, List.set_cons_zero, List.set_cons_succ]
   have hb : Below wr.heap.size wr wr.drew := (Below.refl _ _).drew
   clear hHeld t0 ak aj i0 i9 s0
   replace HBi := Lib.hid (hp_keep4 HBi.out hb)
   replace HBt := Lib.hid (hp_keep4 HBt.out hb)
   replace HBI := Lib.hid (hp_keep4 HBI.out hb)
   replace HBT := Lib.hid (hp_keep4 HBT.out hb)
   replace HBs := Lib.hid (hp_keep4 HBs.out hb)
   replace HBa := Lib.hid (hp_keep4 HBa.out hb)
   replace HBx := Lib.hid (hp_keep4 HBx.out hb)
   replace HBz := Lib.hid (hp_keep4 HBz.out hb)
   replace HBr := Lib.hid (hp_keep4 HBr.out hb)
   replace HK := Lib.hid (OK3.keepw HK.out hb)
   replace HW := Lib.hid (bt HW.out hb)
   clear hb
   generalize wr.drew = X3 at *
   refine wpAnyH_ready (rs := [12]) (by kernel_rfl) (by simp) ?_
   refine AllReadyH.cons rfl (fun K hK => ?_) AllReadyH.nil
   go_simp
   refine (prog_weak k j (Aj - Ak) _ (by omega) (by omega)).mono ?_
   rintro e w5 ⟨rfl, hb⟩
   replace HBi := Lib.hid (hp_keep4 HBi.out hb)
   replace HBt := Lib.hid (hp_keep4 HBt.out hb)
   replace HBI := Lib.hid (hp_keep4 HBI.out hb)
   replace HBT := Lib.hid (hp_keep4 HBT.out hb)
   replace HBs := Lib.hid (hp_keep4 HBs.out hb)
   replace HBa := Lib.hid (hp_keep4 HBa.out hb)
   replace HBx := Lib.hid (hp_keep4 HBx.out hb)
   replace HBz := Lib.hid (hp_keep4 HBz.out hb)
   replace HBr := Lib.hid (hp_keep4 HBr.out hb)
   replace HK := Lib.hid (OK3.keepw HK.out hb)
   replace HW := Lib.hid (bt HW.out hb)
   clear hb
   refine hK.out _ _ ⟨cell_of_row _ tb 0 _ _ _ HBt.out, ((row_at HBT.out (atLz_at hkM)).trans (congrArg (fun t => some (Value.int .i64 t)) HAk.out)), ((row_at HBT.out (atLz_at hjM)).trans (congrArg (fun t => some (Value.int .i64 t)) HAj.out))⟩ (fun hHeld2 => ?_)
   clear hK K
   try simp only [Act.put, List.getElem_toArray, List.getElem_cons_zero, List.getElem_cons_succ, List.setIfInBounds_toArray, List.set_cons_zero, List.set_cons_succ]
   have hba := (Below.refl _ w5).alloc (Nat.le_refl _) (.cells #[.int .i64 k, .int .i64 j, .int .i64 (2 * (Aj - Ak) + 1)] 98)
   clear hHeld2
   have htA := hp_keep4 HBt.out hba
   have hTA := hp_keep4 HBT.out hba
   refine wpAnyH_ready (rs := [13]) (by kernel_rfl) (by simp) ?_
   refine AllReadyH.cons rfl (fun K hK => ?_) AllReadyH.nil
   go_simp
   refine hK.out _ _ ⟨cell_of_row _ tb 0 _ _ _ htA, ((row_at hTA (atLz_at hkM)).trans (congrArg (fun t => some (Value.int .i64 t)) HAk.out)), ((row_at hTA (atLz_at hjM)).trans (congrArg (fun t => some (Value.int .i64 t)) HAj.out))⟩ (fun hHeld2 => ?_)
   clear hK K
   try simp only [Act.put, List.getElem_toArray, List.getElem_cons_zero, List.getElem_cons_succ, List.setIfInBounds_toArray, List.set_cons_zero, List.set_cons_succ]
   have hRl : X.heap.size + 1 ≤ w5.heap.size := hp_lt3 HBr.out
   clear hHeld2 htA hTA hba
   refine wpAnyH_ready (rs := [14]) (by kernel_rfl) (by simp) ?_
   refine AllReadyH.cons rfl (fun K hK => ?_) AllReadyH.nil
   refine step_append_k rfl (.tmp 27) (.tmp 40) 96 rfl 98 Tryz.undKs Tryz.infoK (X.heap.size + 1) (.slice aok nk capk) rfl (rkTo N xs x s j k) (World.ownsRow.alloc HK.out _) (by simp; omega) (.slice (some ⟨w5.heap.size, 0, none⟩) 1 1) rfl [wk k j (Aj - Ak)] (w5.heap.size + 1) (rs_lit3 (w := w5) rfl rfl (by simp)) (by have := rkTo_len N xs x s j k; have := HMN.out; simp only [List.length_cons, List.length_nil]; omega) ?_
   intro v' w6 ho' hg'
   have hgb := fun g e => (World.ownsRow.lt HK.out g e).1
   replace HBi := Lib.hid (hp_app HBi.out hg' hgb (by have := hl0i; omega))
   replace HBt := Lib.hid (hp_app HBt.out hg' hgb (by have := hl0t; omega))
   replace HBI := Lib.hid (hp_app HBI.out hg' hgb (by have := hl0I; omega))
   replace HBT := Lib.hid (hp_app HBT.out hg' hgb (by have := hl0T; omega))
   replace HBs := Lib.hid (hp_app HBs.out hg' hgb (by have := hl0s; omega))
   replace HBa := Lib.hid (hp_app HBa.out hg' hgb (by have := hl0a; omega))
   replace HBx := Lib.hid (hp_app HBx.out hg' hgb (by have := hl0x; omega))
   replace HBz := Lib.hid (hp_app HBz.out hg' hgb (by have := hl0z; omega))
   replace HBr := Lib.hid (hp_app HBr.out hg' hgb (by have := hl0r; omega))
   replace HW := Lib.hid (bw_app HW.out hg' hgb (by omega))
   clear hgb hg'
   refine hK.out _ _ ⟨cell_of_row _ tb 0 _ _ _ HBt.out, ((row_at HBT.out (atLz_at hkM)).trans (congrArg (fun t => some (Value.int .i64 t)) HAk.out)), ((row_at HBT.out (atLz_at hjM)).trans (congrArg (fun t => some (Value.int .i64 t)) HAj.out))⟩ (fun hHeld2 => ?_)
   clear hK K
   try simp only [Act.put, List.getElem_toArray, List.getElem_cons_zero, List.getElem_cons_succ, List.setIfInBounds_toArray, List.set_cons_zero, List.set_cons_succ]
   refine wpAnyH_take (i := 15) (v := ?_) rfl (by kernel_rfl) (by kernel_rfl) (by kernel_rfl) (fun _ _ _ h => h) (Or.inl ⟨by rfl, ?_⟩) (by assumption) ?_
   rotate_left
   ·intro w hSw; (try dsimp only at hSw); go_simp; (try with_reducible rfl)
   try simp only [Act.put, List.getElem_toArray, List.getElem_cons_zero, List.getElem_cons_succ, List.setIfInBounds_toArray, List.set_cons_zero, List.set_cons_succ]
   refine wpAnyH_done (by kernel_rfl) ?_ _
   refine NoPanic.normal ?_
   have HK2 := Lib.hid ho'
   rw [← HM.out] at HK2
   go_wp2_with fail
   go_roundw
   case rel => exact ⟨k + 1, by omega, by go_num, HK2.out, HBi.out, HBt.out, HBI.out, HBT.out, HBs.out, HBa.out, HBx.out, HBz.out, HBr.out, HW.out⟩
   case measure => simp [intOf]; omega
  have htk : decide ((k : Int) < (M : Int)) = false := by simp; omega
  have hkN : k = N + 1 := by have := HMN.out; omega
  rw [hkN] at HK
  clear hkN
  have a0 : wr.cell? ⟨ab, 0, none⟩ = some (.int .i64 N) := cell_of_row _ (ab) 0 _ _ _ HBa.out
  have a1 : wr.cell? ⟨ab, 1, none⟩ = some (.slice ao2 ws.length cap2) := cell_of_row _ (ab) 1 _ _ _ HBa.out
  go_wp2_with fail
  refine (prog_and N _ _ ws (rkTo N xs x s j (N + 1)) _ (Hzv.out.keepb HW.out) (OK3.rk HK.out)).mono ?_
  rintro e w3 ⟨⟨vo, he, hoo⟩, hb⟩
  obtain ⟨⟨x2, os⟩, hO⟩ : ∃ Q, andF N ws (rkTo N xs x s j (N + 1)) = Q := ⟨_, rfl⟩
  rw [hO] at he hoo
  obtain rfl : e = .returned (.tuple #[.agg #[.int .i64 (zdim (x2, os) N), vo], .int .i64 x2]) := he
  have hoo : OL _ _ _ _ os := hoo
  obtain ⟨aoo, capo, rfl⟩ := owns_form hoo
  have hXl := HW.out.size
  have HO := Lib.hid (OL.mono hoo hXl)
  have HOF := Lib.hid hO
  clear hoo hO hXl HK
  clear a0 a1
  replace HBi := Lib.hid (hp_keep4 HBi.out hb)
  replace HBt := Lib.hid (hp_keep4 HBt.out hb)
  replace HBI := Lib.hid (hp_keep4 HBI.out hb)
  replace HBT := Lib.hid (hp_keep4 HBT.out hb)
  replace HBs := Lib.hid (hp_keep4 HBs.out hb)
  replace HBa := Lib.hid (hp_keep4 HBa.out hb)
  replace HBx := Lib.hid (hp_keep4 HBx.out hb)
  replace HBz := Lib.hid (hp_keep4 HBz.out hb)
  replace HBr := Lib.hid (hp_keep4 HBr.out hb)
  replace HW := Lib.hid (bt HW.out hb)
  clear hb
  obtain ⟨D, hD⟩ : ∃ D, zdim (x2, os) (N : Int) = D := ⟨_, rfl⟩
  rw [hD]
  have hba := (Below.refl _ w3).alloc (Nat.le_refl _) (.cells #[.int .i64 D, .slice aoo os.length capo] 32)
  have hqn := heap_alloc_new w3 (.cells #[.int .i64 D, .slice aoo os.length capo] 32)
  have hqW := HW.out.size
  have hli : ib < w3.heap.size := hp_lt3 HBi.out
  have hqi := hp_keep4 HBi.out hba
  have hlt : tb < w3.heap.size := hp_lt3 HBt.out
  have hqt := hp_keep4 HBt.out hba
  have hlI : IA < w3.heap.size := hp_lt3 HBI.out
  have hqI := hp_keep4 HBI.out hba
  have hlT : TA < w3.heap.size := hp_lt3 HBT.out
  have hqT := hp_keep4 HBT.out hba
  have hls : sb < w3.heap.size := hp_lt3 HBs.out
  have hqs := hp_keep4 HBs.out hba
  have hla : ab < w3.heap.size := hp_lt3 HBa.out
  have hqa := hp_keep4 HBa.out hba
  have hlx : xb < w3.heap.size := hp_lt3 HBx.out
  have hqx := hp_keep4 HBx.out hba
  have hlz : zb < w3.heap.size := hp_lt3 HBz.out
  have hqz := hp_keep4 HBz.out hba
  have hlr : X.heap.size < w3.heap.size := hp_lt3 HBr.out
  have hqr := hp_keep4 HBr.out hba
  have hqHO := OL.keepb HO.out hba
  have hqw := bt HW.out hba
  clear hba HW HBi HBt HBI HBT HBs HBa HBx HBz HBr HO
  go_upto_region 13 with fail
  generalize hgen : w3.alloc (.cells #[.int .i64 D, .slice aoo os.length capo] 32) = X4 at *
  clear hgen
  generalize hgen : w3.heap.size = PB at *
  clear hgen
  have HBp := Lib.hid hqn
  have HBi := Lib.hid hqi
  have HBt := Lib.hid hqt
  have HBI := Lib.hid hqI
  have HBT := Lib.hid hqT
  have HBs := Lib.hid hqs
  have HBa := Lib.hid hqa
  have HBx := Lib.hid hqx
  have HBz := Lib.hid hqz
  have HBr := Lib.hid hqr
  have HO := Lib.hid hqHO
  have HW := Lib.hid hqw
  clear hqn hqw hqi hqt hqI hqT hqs hqa hqx hqz hqr hqHO
  by_cases hx2 : x2 = 0
  rotate_left
  ·have hxb : (x2 != 0) = true := by simpa using hx2
   have HG := Lib.hid (rG_none (c := c) (rs := rs) HIJ.out HOF.out hx2)
   clear hx2
   have t0 : X4.cell? ⟨X.heap.size, 0, none⟩ = some (.int .i64 0) := cell_of_row _ (X.heap.size) 0 _ _ _ HBr.out
   have tf0 : X4.frozen? ⟨X.heap.size, 0, none⟩ = false := frozen_of_row _ (X.heap.size) 0 _ _ HBr.out
   have t1 : X4.cell? ⟨X.heap.size, 1, none⟩ = some (.slice none 0 0) := cell_of_row _ (X.heap.size) 1 _ _ _ HBr.out
   have tf1 : X4.frozen? ⟨X.heap.size, 1, none⟩ = false := frozen_of_row _ (X.heap.size) 1 _ _ HBr.out
   have t2 : X4.cell? ⟨X.heap.size, 2, none⟩ = some (.int .i64 0) := cell_of_row _ (X.heap.size) 2 _ _ _ HBr.out
   have tf2 : X4.frozen? ⟨X.heap.size, 2, none⟩ = false := frozen_of_row _ (X.heap.size) 2 _ _ HBr.out
   have t3 : X4.cell? ⟨X.heap.size, 3, none⟩ = some (.slice none 0 0) := cell_of_row _ (X.heap.size) 3 _ _ _ HBr.out
   have tf3 : X4.frozen? ⟨X.heap.size, 3, none⟩ = false := frozen_of_row _ (X.heap.size) 3 _ _ HBr.out
   go_wp2_with fail
   refine bodyPost_ret (v := .tuple #[.agg #[.int .i64 0, .slice none 0 0, .int .i64 0, .slice none 0 0], .int .i64 4]) (by simp [results, Tryz.results74, go_sem, t0, t1, t2, t3]) rfl ⟨by rw [HG.out]; exact PO.err rfl _, ?_⟩
   exact ((((HW.out).setCell (by show X.heap.size ≤ X.heap.size; omega) _).setCell (by show X.heap.size ≤ X.heap.size; omega) _).setCell (by show X.heap.size ≤ X.heap.size; omega) _).setCell (by show X.heap.size ≤ X.heap.size; omega) _
  subst hx2
  obtain rfl : (N : Int) = D := by rw [← hD]; simp [zdim]
  clear hD
  have HG := Lib.hid (rG_yes (c := c) (rs := rs) HIJ.out HOF.out)
  have HOK := Lib.hid (and_valid HOF.out)
  have hjx : j ≠ x := isF_ne HIJ.out
  have hvi : ib < X4.heap.size := hp_lt3 HBi.out
  have hvt : tb < X4.heap.size := hp_lt3 HBt.out
  have hvI : IA < X4.heap.size := hp_lt3 HBI.out
  have hvT : TA < X4.heap.size := hp_lt3 HBT.out
  have hvs : sb < X4.heap.size := hp_lt3 HBs.out
  have hva : ab < X4.heap.size := hp_lt3 HBa.out
  have hvx : xb < X4.heap.size := hp_lt3 HBx.out
  have hvz : zb < X4.heap.size := hp_lt3 HBz.out
  have hvr : X.heap.size < X4.heap.size := hp_lt3 HBr.out
  have hvp : PB < X4.heap.size := hp_lt3 HBp.out
  have hXV := HW.out.size
  have p0 : X4.cell? ⟨PB, 0, none⟩ = some (.int .i64 N) := cell_of_row _ (PB) 0 _ _ _ HBp.out
  have p1 : X4.cell? ⟨PB, 1, none⟩ = some (.slice aoo os.length capo) := cell_of_row _ (PB) 1 _ _ _ HBp.out
  go_wp2_with fail
  refine (prog_corner N _ os _ (OL.rl HO.out) HOK.out).mono ?_
  rintro e w5 ⟨⟨vv, rfl, hov⟩, hb⟩
  obtain ⟨gv, capv, rfl, hgv, _, _, _⟩ := hov.open (by rw [crTo_len]; omega)
  have hvl : (crTo N os N).length = M := by rw [crTo_len]; exact HMN.out.symm
  rw [hvl] at hov
  rw [hvl]
  have HV := Lib.hid hov
  clear hov
  clear p0 p1
  replace HBi := Lib.hid (hp_keep4 HBi.out hb)
  replace HBt := Lib.hid (hp_keep4 HBt.out hb)
  replace HBI := Lib.hid (hp_keep4 HBI.out hb)
  replace HBT := Lib.hid (hp_keep4 HBT.out hb)
  replace HBs := Lib.hid (hp_keep4 HBs.out hb)
  replace HBa := Lib.hid (hp_keep4 HBa.out hb)
  replace HBx := Lib.hid (hp_keep4 HBx.out hb)
  replace HBz := Lib.hid (hp_keep4 HBz.out hb)
  replace HBr := Lib.hid (hp_keep4 HBr.out hb)
  replace HBp := Lib.hid (hp_keep4 HBp.out hb)
  replace HO := Lib.hid (OL.keepb HO.out hb)
  replace HW := Lib.hid (bt HW.out hb)
  clear hb
  generalize hBV : X4.heap.size = BV at *
  clear hBV
  have hxM : x < M := by have := HMN.out; omega
  have x0' : (x : Int) < (M : Int) := by omega
  have x1' : (0 : Int) ≤ (x : Int) := by omega
  obtain ⟨CJ, hCJ⟩ : ∃ A, gi (crTo N os N) j = A := ⟨_, rfl⟩
  obtain ⟨Aj, hAj⟩ : ∃ A, atF N xs x s j = A := ⟨_, rfl⟩
  have HCJ := Lib.hid hCJ
  have HAj := Lib.hid hAj
  obtain ⟨Q, hQ⟩ : ∃ Q, IntKind.i64.wrap (CJ + Aj) = Q := ⟨_, rfl⟩
  have hQ2 : wrap64 (CJ + Aj) = Q := (wrap_w64 _).trans hQ
  have HQ := Lib.hid hQ
  have cj := own_cell HV.out (k := j) (by rw [hvl]; exact hjM)
  rw [hCJ] at cj
  have HST := Lib.hid (OL.stored HV.out hvl.symm x Q)
  clear hCJ hAj
  have t0 : w5.cell? ⟨tb, 0, none⟩ = some (.slice (some ⟨TA, 0, none⟩) M M) := cell_of_row _ (tb) 0 _ _ _ HBt.out
  have x0 : w5.cell? ⟨xb, 0, none⟩ = some (.int .i64 x) := cell_of_row _ (xb) 0 _ _ _ HBx.out
  have aj := (row_at HBT.out (atLz_at hjM) : w5.cell? ⟨TA, j, none⟩ = some (.int .i64 (atF N xs x s j)))
  rw [HAj.out] at aj
  go_upto_region 16 with fail
  refine wp_region_noPanic ?_
  refine wp_region_held_drew (S := (fun w' => w'.cell? ⟨xb, 0, none⟩ = some (.int .i64 x) ∧ w'.cell? ⟨gv, j, none⟩ = some (.int .i64 CJ) ∧ w'.cell? ⟨tb, 0, none⟩ = some (.slice (some ⟨TA, 0, none⟩) M M) ∧ w'.cell? ⟨TA, j, none⟩ = some (.int .i64 Aj))) (by kernel_rfl) ⟨x0, cj, t0, aj⟩ (fun hHeld => ?_)
  refine wpAnyH_take (i := 0) (v := ?_) rfl (by kernel_rfl) (by kernel_rfl) (by kernel_rfl) (fun _ _ _ h => h) (Or.inl ⟨by rfl, ?_⟩) (by assumption) ?_
  rotate_left
  ·intro w hSw; (try dsimp only at hSw); go_simp; (try with_reducible rfl)
  try simp only [Act.put, List.getElem_toArray, List.getElem_cons_zero, List.setIfInBounds_toArray, List.set_cons_zero, List.set_cons_succ]
  refine wpAnyH_take (i := 1) (v := ?_) rfl (by kernel_rfl) (by kernel_rfl) (by kernel_rfl) (fun _ _ _ h => h) (Or.inl ⟨by rfl, ?_⟩) (by assumption) ?_
  rotate_left
  ·intro w hSw; (try dsimp only at hSw); go_simp; (try with_reducible rfl)
  try simp only [Act.put, List.getElem_toArray, List.getElem_cons_zero, List.getElem_cons_succ, List.setIfInBounds_toArray, List.set_cons_zero, List.set_cons_succ]
  refine wpAnyH_take (i := 2) (v := ?_) rfl (by kernel_rfl) (by kernel_rfl) (by kernel_rfl) (fun _ _ _ h => h) (Or.inl ⟨by rfl, ?_⟩) (by assumption) ?_
  rotate_left
  ·intro w hSw; (try dsimp only at hSw); go_simp; (try with_reducible rfl)
  try simp only [Act.put, List.getElem_toArray, List.getElem_cons_zero, List.getElem_cons_succ, List.setIfInBounds_toArray, List.set_cons_zero, List.set_cons_succ]
  refine wpAnyH_take (i := 3) (v := ?_) rfl (by kernel_rfl) (by kernel_rfl) (by kernel_rfl) (fun _ _ _ h => h) (Or.inl ⟨by rfl, ?_⟩) (by assumption) ?_
  rotate_left
  ·intro w hSw; (try dsimp only at hSw); go_simp; (try with_reducible rfl)
  try simp only [Act.put, List.getElem_toArray, List.getElem_cons_zero, List.getElem_cons_succ, List.setIfInBounds_toArray, List.set_cons_zero, List.set_cons_succ]
  refine wpAnyH_take (i := 4) (v := ?_) rfl (by kernel_rfl) (by kernel_rfl) (by kernel_rfl) (fun _ _ _ h => h) (Or.inl ⟨by rfl, ?_⟩) (by assumption) ?_
  rotate_left
  ·intro w hSw; (try dsimp only at hSw); go_simp; (try with_reducible rfl)
  try simp only [Act.put, List.getElem_toArray, List.getElem_cons_zero, List.getElem_cons_succ, List.setIfInBounds_toArray, List.set_cons_zero, List.set_cons_succ]
  refine wpAnyH_take (i := 5) (v := ?_) rfl (by kernel_rfl) (by kernel_rfl) (by kernel_rfl) (fun _ _ _ h => h) (Or.inl ⟨by rfl, ?_⟩) (by assumption) ?_
  rotate_left
  ·intro w hSw; (try dsimp only at hSw); go_simp; (try with_reducible rfl)
  try simp only [Act.put, List.getElem_toArray, List.getElem_cons_zero, List.getElem_cons_succ, List.setIfInBounds_toArray, List.set_cons_zero, List.set_cons_succ]
  refine wpAnyH_take (i := 6) (v := ?_) rfl (by kernel_rfl) (by kernel_rfl) (by kernel_rfl) (fun _ _ _ h => h) (Or.inl ⟨by rfl, ?_⟩) (by assumption) ?_
  rotate_left
  ·intro w hSw; (try dsimp only at hSw); go_simp; (try with_reducible rfl)
  try simp only [Act.put, List.getElem_toArray, List.getElem_cons_zero, List.getElem_cons_succ, List.setIfInBounds_toArray, List.set_cons_zero, List.set_cons_succ]
  refine wpAnyH_take (i := 7) (v := ?_) rfl (by kernel_rfl) (by kernel_rfl) (by kernel_rfl) (fun _ _ _ h => h) (Or.inl ⟨by rfl, ?_⟩) (by assumption) ?_
  rotate_left
  ·intro w hSw; (try dsimp only at hSw); go_simp; (try with_reducible rfl)
  try simp only [Act.put, List.getElem_toArray, List.getElem_cons_zero, List.getElem_cons_succ, List.setIfInBounds_toArray, List.set_cons_zero, List.set_cons_succ]
  refine wpAnyH_take (i := 8) (v := ?_) rfl (by kernel_rfl) (by kernel_rfl) (by kernel_rfl) (fun _ _ _ h => h) (Or.inl ⟨by rfl, ?_⟩) (by assumption) ?_
  rotate_left
  ·intro w hSw; (try dsimp only at hSw); go_simp; (try with_reducible rfl)
  try simp only [Act.put, List.getElem_toArray, List.getElem_cons_zero, List.getElem_cons_succ, List.setIfInBounds_toArray, List.set_cons_zero, List.set_cons_succ]
  refine wpAnyH_take (i := 9) (v := ?_) rfl (by kernel_rfl) (by kernel_rfl) (by kernel_rfl) (fun _ _ _ h => h) (Or.inl ⟨by rfl, ?_⟩) (by assumption) ?_
  rotate_left
  ·intro w hSw; (try dsimp only at hSw); go_simp; (try with_reducible rfl)
  try simp only [Act.put, List.getElem_toArray, List.getElem_cons_zero, List.getElem_cons_succ, List.setIfInBounds_toArray, List.set_cons_zero, List.set_cons_succ]
  refine wpAnyH_take (i := 10) (v := ?_) rfl (by kernel_rfl) (by kernel_rfl) (by kernel_rfl) (fun _ _ _ h => h) (Or.inl ⟨by rfl, ?_⟩) (by assumption) ?_
  rotate_left
  ·intro w hSw; (try dsimp only at hSw); go_simp; (try with_reducible rfl)
  try simp only [Act.put, List.getElem_toArray, List.getElem_cons_zero, List.getElem_cons_succ, List.setIfInBounds_toArray, List.set_cons_zero, List.set_cons_succ]
  refine wpAnyH_take (i := 11) (v := ?_) rfl (by kernel_rfl) (by kernel_rfl) (by kernel_rfl) (fun _ _ _ h => h) (Or.inl ⟨by rfl, ?_⟩) (by assumption) ?_
  rotate_left
  ·intro w hSw; (try dsimp only at hSw); go_simp; (try with_reducible rfl)
  try simp only [Act.put, List.getElem_toArray, List.getElem_cons_zero, List.getElem_cons_succ, List.setIfInBounds_toArray, List.set_cons_zero, List.set_cons_succ]
  have hb : Below w5.heap.size w5 w5.drew := (Below.refl _ _).drew
  clear hHeld x0 cj t0 aj HST
  replace HBi := Lib.hid (hp_keep4 HBi.out hb)
  replace HBt := Lib.hid (hp_keep4 HBt.out hb)
  replace HBI := Lib.hid (hp_keep4 HBI.out hb)
  replace HBT := Lib.hid (hp_keep4 HBT.out hb)
  replace HBs := Lib.hid (hp_keep4 HBs.out hb)
  replace HBa := Lib.hid (hp_keep4 HBa.out hb)
  replace HBx := Lib.hid (hp_keep4 HBx.out hb)
  replace HBz := Lib.hid (hp_keep4 HBz.out hb)
  replace HBr := Lib.hid (hp_keep4 HBr.out hb)
  replace HBp := Lib.hid (hp_keep4 HBp.out hb)
  replace HO := Lib.hid (OL.keepb HO.out hb)
  replace HV := Lib.hid (OL.keepb HV.out hb)
  replace HW := Lib.hid (bt HW.out hb)
  clear hb
  generalize w5.drew = X5 at *
  have HST := Lib.hid (OL.stored HV.out hvl.symm x Q)
  have xf := own_fro HV.out (k := x) (by rw [hvl]; exact hxM)
  have xc := own_cell HV.out (k := x) (by rw [hvl]; exact hxM)
  have hne' : ∀ g', some gv = some g' → BV ≤ g' := fun g' e => by cases e; exact hgv
  have hqi := hp_gr0 HBi.out HST.out.2 hne' hvi
  have hqt := hp_gr0 HBt.out HST.out.2 hne' hvt
  have hqI := hp_gr0 HBI.out HST.out.2 hne' hvI
  have hqT := hp_gr0 HBT.out HST.out.2 hne' hvT
  have hqs := hp_gr0 HBs.out HST.out.2 hne' hvs
  have hqa := hp_gr0 HBa.out HST.out.2 hne' hva
  have hqx := hp_gr0 HBx.out HST.out.2 hne' hvx
  have hqz := hp_gr0 HBz.out HST.out.2 hne' hvz
  have hqr := hp_gr0 HBr.out HST.out.2 hne' hvr
  have hqp := hp_gr0 HBp.out HST.out.2 hne' hvp
  have hqw := bw_gr0 HW.out HST.out.2 hne' hXV
  have hqo := OL.kept HO.out HST.out.2 (own_apart HO.out HV.out (by decide))
  have hqv := HST.out.1
  have cq : (X5.setCell ⟨gv, x, none⟩ (.int .i64 Q)).cell? ⟨gv, j, none⟩ = some (.int .i64 CJ) := by
   have h := own_cell hqv (k := j) (by rw [List.length_set, hvl]; exact hjM)
   rwa [gi_set_ne (fun e => hjx e.symm), HCJ.out] at h
  refine wpAnyH_ready (rs := [12]) (by kernel_rfl) (by simp) ?_
  refine AllReadyH.cons rfl (fun K hK => ?_) AllReadyH.nil
  go_simp
  refine hK.out _ _ ⟨cell_of_row _ xb 0 _ _ _ hqx, cq, cell_of_row _ tb 0 _ _ _ hqt, (row_at hqT (atLz_at hjM)).trans (congrArg (fun t => some (Value.int .i64 t)) HAj.out)⟩ (fun hHeld2 => ?_)
  clear hK K
  try simp only [Act.put, List.getElem_toArray, List.getElem_cons_zero, List.getElem_cons_succ, List.setIfInBounds_toArray, List.set_cons_zero, List.set_cons_succ]
  refine wpAnyH_done (by kernel_rfl) ?_ _
  refine NoPanic.normal ?_
  clear cq xf xc HST
  clear HW HBi HBt HBI HBT HBs HBa HBx HBz HBr HBp HO HV
  try clear hHeld2
  generalize hgen : X5.setCell ⟨gv, x, none⟩ (.int .i64 Q) = X6 at *
  clear hgen
  have HBi := Lib.hid hqi
  have HBt := Lib.hid hqt
  have HBI := Lib.hid hqI
  have HBT := Lib.hid hqT
  have HBs := Lib.hid hqs
  have HBa := Lib.hid hqa
  have HBx := Lib.hid hqx
  have HBz := Lib.hid hqz
  have HBr := Lib.hid hqr
  have HBp := Lib.hid hqp
  have HW := Lib.hid hqw
  clear hqw hqi hqt hqI hqT hqs hqa hqx hqz hqr hqp
  have HO := Lib.hid hqo
  have HV := Lib.hid hqv
  clear hqo hqv
  have hvl2 : ((crTo N os N).set x Q).length = M := by rw [List.length_set, hvl]
  obtain ⟨T, hT⟩ : ∃ T, cstTo N xs c rs (fun k => gi ((crTo N os N).set x Q) k) N = T := ⟨_, rfl⟩
  have HT := Lib.hid (show rC N xs c rs os x j s = T by rw [← hT]; exact rC_eq HQ.out HCJ.out HAj.out hxM (by have := HMN.out; omega) hvl)
  have p0 : X6.cell? ⟨PB, 0, none⟩ = some (.int .i64 N) := cell_of_row _ (PB) 0 _ _ _ HBp.out
  have p1 : X6.cell? ⟨PB, 1, none⟩ = some (.slice aoo os.length capo) := cell_of_row _ (PB) 1 _ _ _ HBp.out
  have z0 : X6.cell? ⟨zb, 0, none⟩ = some (.int .i64 N) := cell_of_row _ (zb) 0 _ _ _ HBz.out
  have z1 : X6.cell? ⟨zb, 1, none⟩ = some (.slice ao xs.length cap) := cell_of_row _ (zb) 1 _ _ _ HBz.out
  have z2 : X6.cell? ⟨zb, 2, none⟩ = some (.int .i64 c) := cell_of_row _ (zb) 2 _ _ _ HBz.out
  have z3 : X6.cell? ⟨zb, 3, none⟩ = some (.slice aor rs.length capr) := cell_of_row _ (zb) 3 _ _ _ HBz.out
  have HCost := Lib.hid (fun (X' : World) (h : Below X6.heap.size X6 X') => (by have h2 := prog_cost N c _ _ _ xs rs ((crTo N os N).set x Q) X' (Hv.out.keepb (bt HW.out h)) (Hr.out.keepb (bt HW.out h)) (OL.rl (OL.keepb HV.out h)) Hok.out Hlr.out (by rw [hvl2]; exact HMN.out); rw [hT] at h2; exact h2 : Calls Tryz.prog 77 #[.agg #[.int .i64 N, .slice ao xs.length cap, .int .i64 c, .slice aor rs.length capr], .slice (some ⟨gv, 0, none⟩) M capv] X' fun e w' => e = .returned (.int .i64 T) ∧ Below X'.heap.size X' w'))
  have HClone := Lib.hid (fun (X' : World) (h : Below X6.heap.size X6 X') => clone64 (.slice aor rs.length capr) rs X' (Hr.out.keepb (bt HW.out h)) (by have := Hlr.out; omega))
  have HS := Lib.hid (fun (X' : World) (hX : Below X6.heap.size X6 X') => (⟨cell_of_row _ PB 0 _ _ _ (hp_keep4 HBp.out hX), cell_of_row _ PB 1 _ _ _ (hp_keep4 HBp.out hX), cell_of_row _ zb 0 _ _ _ (hp_keep4 HBz.out hX), cell_of_row _ zb 1 _ _ _ (hp_keep4 HBz.out hX), cell_of_row _ zb 2 _ _ _ (hp_keep4 HBz.out hX), cell_of_row _ zb 3 _ _ _ (hp_keep4 HBz.out hX)⟩ : X'.cell? ⟨PB, 0, none⟩ = some (.int .i64 N) ∧ X'.cell? ⟨PB, 1, none⟩ = some (.slice aoo os.length capo) ∧ X'.cell? ⟨zb, 0, none⟩ = some (.int .i64 N) ∧ X'.cell? ⟨zb, 1, none⟩ = some (.slice ao xs.length cap) ∧ X'.cell? ⟨zb, 2, none⟩ = some (.int .i64 c) ∧ X'.cell? ⟨zb, 3, none⟩ = some (.slice aor rs.length capr)))
  clear hT
  go_upto_region 17 with fail
  go_cut [15] (fun s15 wx => ∃ bx ao1 cap1, s15 = .pointer (some ⟨bx, 0, none⟩) ∧ wx.heap[bx]? = some (.cells #[.int .i64 N, .slice aoo os.length capo, .int .i64 T, .slice ao1 rs.length cap1] 35 (0, 0)) ∧ OL 2 X6.heap.size wx (.slice ao1 rs.length cap1) rs ∧ (Value.slice ao1 rs.length cap1).ownBlock ≠ some bx ∧ X6.heap.size ≤ bx ∧ Below X6.heap.size X6 wx)
  case first =>
   refine wp_region_noPanic ?_
   refine wp_region_held_drew (S := (fun w' => w'.cell? ⟨PB, 0, none⟩ = some (.int .i64 N) ∧ w'.cell? ⟨PB, 1, none⟩ = some (.slice aoo os.length capo) ∧ w'.cell? ⟨zb, 0, none⟩ = some (.int .i64 N) ∧ w'.cell? ⟨zb, 1, none⟩ = some (.slice ao xs.length cap) ∧ w'.cell? ⟨zb, 2, none⟩ = some (.int .i64 c) ∧ w'.cell? ⟨zb, 3, none⟩ = some (.slice aor rs.length capr))) (by kernel_rfl) ⟨p0, p1, z0, z1, z2, z3⟩ (fun hHeld => ?_)
   refine wpAnyH_take (i := 0) (v := ?_) rfl (by kernel_rfl) (by kernel_rfl) (by kernel_rfl) (fun _ _ _ h => h) (Or.inl ⟨by rfl, ?_⟩) (by assumption) ?_
   rotate_left
   ·intro w hSw; (try dsimp only at hSw); go_simp; (try with_reducible rfl)
   try simp only [Act.put, List.getElem_toArray, List.getElem_cons_zero, List.setIfInBounds_toArray, List.set_cons_zero, List.set_cons_succ]
   refine wpAnyH_take (i := 1) (v := ?_) rfl (by kernel_rfl) (by kernel_rfl) (by kernel_rfl) (fun _ _ _ h => h) (Or.inl ⟨by rfl, ?_⟩) (by assumption) ?_
   rotate_left
   ·intro w hSw; (try dsimp only at hSw); go_simp; (try with_reducible rfl)
   try simp only [Act.put, List.getElem_toArray, List.getElem_cons_zero, List.getElem_cons_succ, List.setIfInBounds_toArray, List.set_cons_zero, List.set_cons_succ]
   refine wpAnyH_take (i := 2) (v := ?_) rfl (by kernel_rfl) (by kernel_rfl) (by kernel_rfl) (fun _ _ _ h => h) (Or.inl ⟨by rfl, ?_⟩) (by assumption) ?_
   rotate_left
   ·intro w hSw; (try dsimp only at hSw); go_simp; (try with_reducible rfl)
   try simp only [Act.put, List.getElem_toArray, List.getElem_cons_zero, List.getElem_cons_succ, List.setIfInBounds_toArray, List.set_cons_zero, List.set_cons_succ]
   refine wpAnyH_take (i := 4) (v := ?_) rfl (by kernel_rfl) (by kernel_rfl) (by kernel_rfl) (fun _ _ _ h => h) (Or.inl ⟨by rfl, ?_⟩) (by assumption) ?_
   rotate_left
   ·intro w hSw; (try dsimp only at hSw); go_simp; (try with_reducible rfl)
   try simp only [Act.put, List.getElem_toArray, List.getElem_cons_zero, List.getElem_cons_succ, List.setIfInBounds_toArray, List.set_cons_zero, List.set_cons_succ]
   refine wpAnyH_take (i := 5) (v := ?_) rfl (by kernel_rfl) (by kernel_rfl) (by kernel_rfl) (fun _ _ _ h => h) (Or.inl ⟨by rfl, ?_⟩) (by assumption) ?_
   rotate_left
   ·intro w hSw; (try dsimp only at hSw); go_simp; (try with_reducible rfl)
   try simp only [Act.put, List.getElem_toArray, List.getElem_cons_zero, List.getElem_cons_succ, List.setIfInBounds_toArray, List.set_cons_zero, List.set_cons_succ]
   have H0 := Lib.hid (show Below X6.heap.size X6 X6.drew from (Below.refl _ _).drew)
   clear hHeld p0 p1 z0 z1 z2 z3
   generalize X6.drew = L0 at *
   refine wpAnyH_ready (rs := [3, 8]) (by kernel_rfl) (by simp) ?_
   refine AllReadyH.cons rfl (fun K hK => ?_) (AllReadyH.cons rfl (fun K hK => ?_) (AllReadyH.nil))
   ·skip
    go_simp
    refine (HCost.out L0 H0.out).mono ?_
    rintro e L1 ⟨rfl, hb⟩
    have H1 := Lib.hid (bt H0.out hb)
    refine hK.out _ _ (HS.out L1 H1.out) (fun hHeld2 => ?_)
    clear hK K hb
    try simp only [Act.put, List.getElem_toArray, List.getElem_cons_zero, List.getElem_cons_succ, List.setIfInBounds_toArray, List.set_cons_zero, List.set_cons_succ]
    refine wpAnyH_ready (rs := [6, 8]) (by kernel_rfl) (by simp) ?_
    refine AllReadyH.cons rfl (fun K hK => ?_) (AllReadyH.cons rfl (fun K hK => ?_) (AllReadyH.nil))
    ·skip
     go_simp
     refine (HClone.out L1 H1.out).mono ?_
     rintro e L2 ⟨⟨vq, rfl, ho⟩, hb⟩
     obtain ⟨ao1, cap1, rfl⟩ := owns_form ho
     have H2 := Lib.hid (bt H1.out hb)
     have Hcl := Lib.hid (OL.mono ho H1.out.size)
     refine hK.out _ _ (HS.out L2 H2.out) (fun hHeld2 => ?_)
     clear hK K hb ho
     try simp only [Act.put, List.getElem_toArray, List.getElem_cons_zero, List.getElem_cons_succ, List.setIfInBounds_toArray, List.set_cons_zero, List.set_cons_succ]
     refine wpAnyH_take (i := 7) (v := ?_) rfl (by kernel_rfl) (by kernel_rfl) (by kernel_rfl) (fun _ _ _ h => h) (Or.inl ⟨by rfl, ?_⟩) (by assumption) ?_
     rotate_left
     ·intro w hSw; (try dsimp only at hSw); go_simp; (try with_reducible rfl)
     try simp only [Act.put, List.getElem_toArray, List.getElem_cons_zero, List.getElem_cons_succ, List.setIfInBounds_toArray, List.set_cons_zero, List.set_cons_succ]
     refine wpAnyH_ready (rs := [8]) (by kernel_rfl) (by simp) ?_
     refine AllReadyH.cons rfl (fun K hK => ?_) (AllReadyH.nil)
     ·skip
      go_simp
      have H3' := bal H2.out (.cells #[.int .i64 0, .slice none 0 0, .int .i64 0, .slice none 0 0] 35)
      have Hbx' := heap_alloc_new L2 (.cells #[.int .i64 0, .slice none 0 0, .int .i64 0, .slice none 0 0] 35)
      have Hge' := H2.out.size
      have Hne' := Lib.hid (show (Value.slice ao1 rs.length cap1).ownBlock ≠ some L2.heap.size from fun e => by have h1 := (World.ownsRow.lt Hcl.out L2.heap.size e).2; omega)
      have Hcl' : OL _ _ (L2.alloc (.cells #[.int .i64 0, .slice none 0 0, .int .i64 0, .slice none 0 0] 35)) _ rs := World.ownsRow.alloc Hcl.out _
      refine hK.out _ _ (HS.out _ H3') (fun hHeld2 => ?_)
      clear hK K
      generalize hgen : World.alloc L2 _ = L3 at *
      clear hgen
      generalize L2.heap.size = bx at *
      have H3 := Lib.hid H3'
      have Hbx := Lib.hid Hbx'
      have Hge := Lib.hid Hge'
      have Hne := Lib.hid Hne'.out
      clear Hcl Hne'
      have Hcl := Lib.hid Hcl'
      clear Hcl'
      clear H3' Hbx' Hge'
      try simp only [Act.put, List.getElem_toArray, List.getElem_cons_zero, List.getElem_cons_succ, List.setIfInBounds_toArray, List.set_cons_zero, List.set_cons_succ]
      refine wpAnyH_ready (rs := [9]) (by kernel_rfl) (by simp) ?_
      refine AllReadyH.cons rfl (fun K hK => ?_) (AllReadyH.nil)
      ·skip
       have t0 := cell_of_row _ bx 0 _ _ _ Hbx.out
       have f0 := frozen_of_row _ bx 0 _ _ Hbx.out
       have t1 := cell_of_row _ bx 1 _ _ _ Hbx.out
       have f1 := frozen_of_row _ bx 1 _ _ Hbx.out
       have t2 := cell_of_row _ bx 2 _ _ _ Hbx.out
       have f2 := frozen_of_row _ bx 2 _ _ Hbx.out
       have t3 := cell_of_row _ bx 3 _ _ _ Hbx.out
       have f3 := frozen_of_row _ bx 3 _ _ Hbx.out
       have HF1 := Lib.hid (st4_at (.int .i64 N) (.slice aoo os.length capo) (.int .i64 T) (.slice ao1 rs.length cap1) Hbx.out)
       have HF2 := Lib.hid (own_other4n Hcl.out Hne.out (.int .i64 N) (.slice aoo os.length capo) (.int .i64 T) (.slice ao1 rs.length cap1))
       have HF3 := Lib.hid ((((H3.out.setCell (p := ⟨bx, 0, none⟩) Hge.out (.int .i64 N)).setCell (p := ⟨bx, 1, none⟩) Hge.out (.slice aoo os.length capo)).setCell (p := ⟨bx, 2, none⟩) Hge.out (.int .i64 T)).setCell (p := ⟨bx, 3, none⟩) Hge.out (.slice ao1 rs.length cap1))
       go_simp
       refine hK.out _ _ (HS.out _ HF3.out) (fun hHeld2 => ?_)
       clear hK K t0 t1 t2 t3 f0 f1 f2 f3
       try simp only [Act.put, List.getElem_toArray, List.getElem_cons_zero, List.getElem_cons_succ, List.setIfInBounds_toArray, List.set_cons_zero, List.set_cons_succ]
       refine wpAnyH_done (by kernel_rfl) ?_ _
       refine NoPanic.normal ?_
       go_wp2_with fail
       go_meet
       exact ⟨bx, ao1, cap1, rfl, HF1.out, HF2.out, Hne.out, Hge.out, HF3.out⟩
    ·skip
     go_simp
     have H2' := bal H1.out (.cells #[.int .i64 0, .slice none 0 0, .int .i64 0, .slice none 0 0] 35)
     have Hbx' := heap_alloc_new L1 (.cells #[.int .i64 0, .slice none 0 0, .int .i64 0, .slice none 0 0] 35)
     have Hge' := H1.out.size
     refine hK.out _ _ (HS.out _ H2') (fun hHeld2 => ?_)
     clear hK K
     generalize hgen : World.alloc L1 _ = L2 at *
     clear hgen
     generalize L1.heap.size = bx at *
     have H2 := Lib.hid H2'
     have Hbx := Lib.hid Hbx'
     have Hge := Lib.hid Hge'
     clear H2' Hbx' Hge'
     try simp only [Act.put, List.getElem_toArray, List.getElem_cons_zero, List.getElem_cons_succ, List.setIfInBounds_toArray, List.set_cons_zero, List.set_cons_succ]
     refine wpAnyH_ready (rs := [6]) (by kernel_rfl) (by simp) ?_
     refine AllReadyH.cons rfl (fun K hK => ?_) (AllReadyH.nil)
     ·skip
      go_simp
      refine (HClone.out L2 H2.out).mono ?_
      rintro e L3 ⟨⟨vq, rfl, ho⟩, hb⟩
      obtain ⟨ao1, cap1, rfl⟩ := owns_form ho
      have H3 := Lib.hid (bt H2.out hb)
      have Hne := Lib.hid (show (Value.slice ao1 rs.length cap1).ownBlock ≠ some bx from fun e => by have h1 := (World.ownsRow.lt ho bx e).1; have h2 := hp_lt3 Hbx.out; omega)
      replace Hbx := Lib.hid (hp_keep4 Hbx.out hb)
      have Hcl := Lib.hid (OL.mono ho H2.out.size)
      refine hK.out _ _ (HS.out L3 H3.out) (fun hHeld2 => ?_)
      clear hK K hb ho
      try simp only [Act.put, List.getElem_toArray, List.getElem_cons_zero, List.getElem_cons_succ, List.setIfInBounds_toArray, List.set_cons_zero, List.set_cons_succ]
      refine wpAnyH_take (i := 7) (v := ?_) rfl (by kernel_rfl) (by kernel_rfl) (by kernel_rfl) (fun _ _ _ h => h) (Or.inl ⟨by rfl, ?_⟩) (by assumption) ?_
      rotate_left
      ·intro w hSw; (try dsimp only at hSw); go_simp; (try with_reducible rfl)
      try simp only [Act.put, List.getElem_toArray, List.getElem_cons_zero, List.getElem_cons_succ, List.setIfInBounds_toArray, List.set_cons_zero, List.set_cons_succ]
      refine wpAnyH_ready (rs := [9]) (by kernel_rfl) (by simp) ?_
      refine AllReadyH.cons rfl (fun K hK => ?_) (AllReadyH.nil)
      ·skip
       have t0 := cell_of_row _ bx 0 _ _ _ Hbx.out
       have f0 := frozen_of_row _ bx 0 _ _ Hbx.out
       have t1 := cell_of_row _ bx 1 _ _ _ Hbx.out
       have f1 := frozen_of_row _ bx 1 _ _ Hbx.out
       have t2 := cell_of_row _ bx 2 _ _ _ Hbx.out
       have f2 := frozen_of_row _ bx 2 _ _ Hbx.out
       have t3 := cell_of_row _ bx 3 _ _ _ Hbx.out
       have f3 := frozen_of_row _ bx 3 _ _ Hbx.out
       have HF1 := Lib.hid (st4_at (.int .i64 N) (.slice aoo os.length capo) (.int .i64 T) (.slice ao1 rs.length cap1) Hbx.out)
       have HF2 := Lib.hid (own_other4n Hcl.out Hne.out (.int .i64 N) (.slice aoo os.length capo) (.int .i64 T) (.slice ao1 rs.length cap1))
       have HF3 := Lib.hid ((((H3.out.setCell (p := ⟨bx, 0, none⟩) Hge.out (.int .i64 N)).setCell (p := ⟨bx, 1, none⟩) Hge.out (.slice aoo os.length capo)).setCell (p := ⟨bx, 2, none⟩) Hge.out (.int .i64 T)).setCell (p := ⟨bx, 3, none⟩) Hge.out (.slice ao1 rs.length cap1))
       go_simp
       refine hK.out _ _ (HS.out _ HF3.out) (fun hHeld2 => ?_)
       clear hK K t0 t1 t2 t3 f0 f1 f2 f3
       try simp only [Act.put, List.getElem_toArray, List.getElem_cons_zero, List.getElem_cons_succ, List.setIfInBounds_toArray, List.set_cons_zero, List.set_cons_succ]
       refine wpAnyH_done (by kernel_rfl) ?_ _
       refine NoPanic.normal ?_
       go_wp2_with fail
       go_meet
       exact ⟨bx, ao1, cap1, rfl, HF1.out, HF2.out, Hne.out, Hge.out, HF3.out⟩
   ·skip
    go_simp
    have H1' := bal H0.out (.cells #[.int .i64 0, .slice none 0 0, .int .i64 0, .slice none 0 0] 35)
    have Hbx' := heap_alloc_new L0 (.cells #[.int .i64 0, .slice none 0 0, .int .i64 0, .slice none 0 0] 35)
    have Hge' := H0.out.size
    refine hK.out _ _ (HS.out _ H1') (fun hHeld2 => ?_)
    clear hK K
    generalize hgen : World.alloc L0 _ = L1 at *
    clear hgen
    generalize L0.heap.size = bx at *
    have H1 := Lib.hid H1'
    have Hbx := Lib.hid Hbx'
    have Hge := Lib.hid Hge'
    clear H1' Hbx' Hge'
    try simp only [Act.put, List.getElem_toArray, List.getElem_cons_zero, List.getElem_cons_succ, List.setIfInBounds_toArray, List.set_cons_zero, List.set_cons_succ]
    refine wpAnyH_ready (rs := [3]) (by kernel_rfl) (by simp) ?_
    refine AllReadyH.cons rfl (fun K hK => ?_) (AllReadyH.nil)
    ·skip
     go_simp
     refine (HCost.out L1 H1.out).mono ?_
     rintro e L2 ⟨rfl, hb⟩
     have H2 := Lib.hid (bt H1.out hb)
     replace Hbx := Lib.hid (hp_keep4 Hbx.out hb)
     refine hK.out _ _ (HS.out L2 H2.out) (fun hHeld2 => ?_)
     clear hK K hb
     try simp only [Act.put, List.getElem_toArray, List.getElem_cons_zero, List.getElem_cons_succ, List.setIfInBounds_toArray, List.set_cons_zero, List.set_cons_succ]
     refine wpAnyH_ready (rs := [6]) (by kernel_rfl) (by simp) ?_
     refine AllReadyH.cons rfl (fun K hK => ?_) (AllReadyH.nil)
     ·skip
      go_simp
      refine (HClone.out L2 H2.out).mono ?_
      rintro e L3 ⟨⟨vq, rfl, ho⟩, hb⟩
      obtain ⟨ao1, cap1, rfl⟩ := owns_form ho
      have H3 := Lib.hid (bt H2.out hb)
      have Hne := Lib.hid (show (Value.slice ao1 rs.length cap1).ownBlock ≠ some bx from fun e => by have h1 := (World.ownsRow.lt ho bx e).1; have h2 := hp_lt3 Hbx.out; omega)
      replace Hbx := Lib.hid (hp_keep4 Hbx.out hb)
      have Hcl := Lib.hid (OL.mono ho H2.out.size)
      refine hK.out _ _ (HS.out L3 H3.out) (fun hHeld2 => ?_)
      clear hK K hb ho
      try simp only [Act.put, List.getElem_toArray, List.getElem_cons_zero, List.getElem_cons_succ, List.setIfInBounds_toArray, List.set_cons_zero, List.set_cons_succ]
      refine wpAnyH_take (i := 7) (v := ?_) rfl (by kernel_rfl) (by kernel_rfl) (by kernel_rfl) (fun _ _ _ h => h) (Or.inl ⟨by rfl, ?_⟩) (by assumption) ?_
      rotate_left
      ·intro w hSw; (try dsimp only at hSw); go_simp; (try with_reducible rfl)
      try simp only [Act.put, List.getElem_toArray, List.getElem_cons_zero, List.getElem_cons_succ, List.setIfInBounds_toArray, List.set_cons_zero, List.set_cons_succ]
      refine wpAnyH_ready (rs := [9]) (by kernel_rfl) (by simp) ?_
      refine AllReadyH.cons rfl (fun K hK => ?_) (AllReadyH.nil)
      ·skip
       have t0 := cell_of_row _ bx 0 _ _ _ Hbx.out
       have f0 := frozen_of_row _ bx 0 _ _ Hbx.out
       have t1 := cell_of_row _ bx 1 _ _ _ Hbx.out
       have f1 := frozen_of_row _ bx 1 _ _ Hbx.out
       have t2 := cell_of_row _ bx 2 _ _ _ Hbx.out
       have f2 := frozen_of_row _ bx 2 _ _ Hbx.out
       have t3 := cell_of_row _ bx 3 _ _ _ Hbx.out
       have f3 := frozen_of_row _ bx 3 _ _ Hbx.out
       have HF1 := Lib.hid (st4_at (.int .i64 N) (.slice aoo os.length capo) (.int .i64 T) (.slice ao1 rs.length cap1) Hbx.out)
       have HF2 := Lib.hid (own_other4n Hcl.out Hne.out (.int .i64 N) (.slice aoo os.length capo) (.int .i64 T) (.slice ao1 rs.length cap1))
       have HF3 := Lib.hid ((((H3.out.setCell (p := ⟨bx, 0, none⟩) Hge.out (.int .i64 N)).setCell (p := ⟨bx, 1, none⟩) Hge.out (.slice aoo os.length capo)).setCell (p := ⟨bx, 2, none⟩) Hge.out (.int .i64 T)).setCell (p := ⟨bx, 3, none⟩) Hge.out (.slice ao1 rs.length cap1))
       go_simp
       refine hK.out _ _ (HS.out _ HF3.out) (fun hHeld2 => ?_)
       clear hK K t0 t1 t2 t3 f0 f1 f2 f3
       try simp only [Act.put, List.getElem_toArray, List.getElem_cons_zero, List.getElem_cons_succ, List.setIfInBounds_toArray, List.set_cons_zero, List.set_cons_succ]
       refine wpAnyH_done (by kernel_rfl) ?_ _
       refine NoPanic.normal ?_
       go_wp2_with fail
       go_meet
       exact ⟨bx, ao1, cap1, rfl, HF1.out, HF2.out, Hne.out, Hge.out, HF3.out⟩
  case rest =>
   obtain ⟨X7, hV7⟩ : ∃ V, V = wc := ⟨_, rfl⟩
   subst hV7
   obtain ⟨bx, ao1, cap1, rfl, hbx, hcl, hne, hge, hb⟩ := hcut
   clear HS HCost HClone p0 p1 z0 z1 z2 z3
   clear HV
   have hui : ib < X6.heap.size := hp_lt3 HBi.out
   have hut : tb < X6.heap.size := hp_lt3 HBt.out
   have huI : IA < X6.heap.size := hp_lt3 HBI.out
   have huT : TA < X6.heap.size := hp_lt3 HBT.out
   have hus : sb < X6.heap.size := hp_lt3 HBs.out
   have hua : ab < X6.heap.size := hp_lt3 HBa.out
   have hux : xb < X6.heap.size := hp_lt3 HBx.out
   have huz : zb < X6.heap.size := hp_lt3 HBz.out
   have hur : X.heap.size < X6.heap.size := hp_lt3 HBr.out
   have hup : PB < X6.heap.size := hp_lt3 HBp.out
   have hXW := HW.out.size
   replace HBi := Lib.hid (hp_keep4 HBi.out hb)
   replace HBt := Lib.hid (hp_keep4 HBt.out hb)
   replace HBI := Lib.hid (hp_keep4 HBI.out hb)
   replace HBT := Lib.hid (hp_keep4 HBT.out hb)
   replace HBs := Lib.hid (hp_keep4 HBs.out hb)
   replace HBa := Lib.hid (hp_keep4 HBa.out hb)
   replace HBx := Lib.hid (hp_keep4 HBx.out hb)
   replace HBz := Lib.hid (hp_keep4 HBz.out hb)
   replace HBr := Lib.hid (hp_keep4 HBr.out hb)
   replace HBp := Lib.hid (hp_keep4 HBp.out hb)
   replace HO := Lib.hid (OL.keepb HO.out hb)
   replace HW := Lib.hid (bt HW.out hb)
   clear hb
   obtain ⟨g1, cap1', e1, hg1, _, _, _⟩ := hcl.open (by have := Hlr.out; omega)
   simp only [Value.slice.injEq, true_and] at e1
   obtain ⟨rfl, rfl⟩ := e1
   have hb1 : bx ≠ g1 := fun e => hne (by rw [e]; rfl)
   have HCl := Lib.hid hcl
   have HBo := Lib.hid hbx
   clear hcl hbx hne
   generalize hBW : X6.heap.size = BW at *
   clear hBW
   obtain ⟨y, hy⟩ : ∃ y, x = y + 1 := ⟨x - 1, by omega⟩
   have hxy : (x : Int) - 1 = (y : Int) := by omega
   have hyx : x - 1 = y := by omega
   have y0 : (y : Int) < (rs.length : Int) := by have := Hlr.out; omega
   have y1 : (0 : Int) ≤ (y : Int) := by omega
   have yf := own_fro HCl.out (k := y) (by have := Hlr.out; omega)
   have HST := Lib.hid (OL.stored HCl.out rfl y 0)
   have hne' : ∀ g', some g1 = some g' → BW ≤ g' := fun g' e => by cases e; exact hg1
   clear hy
   have o0 : X7.cell? ⟨bx, 0, none⟩ = some (.int .i64 N) := cell_of_row _ (bx) 0 _ _ _ HBo.out
   have o1 : X7.cell? ⟨bx, 1, none⟩ = some (.slice aoo os.length capo) := cell_of_row _ (bx) 1 _ _ _ HBo.out
   have o2 : X7.cell? ⟨bx, 2, none⟩ = some (.int .i64 T) := cell_of_row _ (bx) 2 _ _ _ HBo.out
   have o3 : X7.cell? ⟨bx, 3, none⟩ = some (.slice (some ⟨g1, 0, none⟩) rs.length cap1) := cell_of_row _ (bx) 3 _ _ _ HBo.out
   have x0 : X7.cell? ⟨xb, 0, none⟩ = some (.int .i64 x) := cell_of_row _ (xb) 0 _ _ _ HBx.out
   have yc := own_cell HCl.out (k := y) (by have := Hlr.out; omega)
   go_upto_region 19 with fail
   clear o0 o1 o2 o3 x0 yc yf
   have hqi := hp_gr0 HBi.out HST.out.2 hne' hui
   have hqt := hp_gr0 HBt.out HST.out.2 hne' hut
   have hqI := hp_gr0 HBI.out HST.out.2 hne' huI
   have hqT := hp_gr0 HBT.out HST.out.2 hne' huT
   have hqs := hp_gr0 HBs.out HST.out.2 hne' hus
   have hqa := hp_gr0 HBa.out HST.out.2 hne' hua
   have hqx := hp_gr0 HBx.out HST.out.2 hne' hux
   have hqz := hp_gr0 HBz.out HST.out.2 hne' huz
   have hqr := hp_gr0 HBr.out HST.out.2 hne' hur
   have hqp := hp_gr0 HBp.out HST.out.2 hne' hup
   have hqo := hp_gr HBo.out HST.out.2 hb1
   have hqw := bw_gr0 HW.out HST.out.2 hne' hXW
   have hqO := OL.kept HO.out HST.out.2 (own_apart HO.out HCl.out (by decide))
   have hqc := HST.out.1
   clear HW HO HCl HST HBo HBi HBt HBI HBT HBs HBa HBx HBz HBr HBp
   generalize hgen : X7.setCell ⟨g1, y, none⟩ (.int .i64 0) = X8 at *
   clear hgen
   have HBi := Lib.hid hqi
   have HBt := Lib.hid hqt
   have HBI := Lib.hid hqI
   have HBT := Lib.hid hqT
   have HBs := Lib.hid hqs
   have HBa := Lib.hid hqa
   have HBx := Lib.hid hqx
   have HBz := Lib.hid hqz
   have HBr := Lib.hid hqr
   have HBp := Lib.hid hqp
   have HBo := Lib.hid hqo
   have HW := Lib.hid hqw
   have HO := Lib.hid hqO
   have HCl := Lib.hid hqc
   clear hqw hqo hqO hqc hqi hqt hqI hqT hqs hqa hqx hqz hqr hqp
   have hj1 : 1 ≤ j := HJC.out
   have hjb : decide (0 < (j : Int)) = true := by simp; omega
   have hjc : decide ((j : Int) > 0) = true := by simp; omega
   obtain ⟨i, hi⟩ : ∃ i, j = i + 1 := ⟨j - 1, (Nat.succ_pred_eq_of_pos hj1).symm⟩
   have hji : (j : Int) - 1 = (i : Int) := by omega
   have hij1 : j - 1 = i := by omega
   have i0 : (i : Int) < (rs.length : Int) := by have := Hlr.out; omega
   have i1 : (0 : Int) ≤ (i : Int) := by omega
   have hrl0 : (rs.set y 0).length = rs.length := by simp
   have hiL : i < (rs.set y 0).length := by rw [hrl0]; have := Hlr.out; omega
   have hiB : -9223372036854775808 ≤ (i : Int) ∧ (i : Int) ≤ 9223372036854775807 := by have := Hlr.out; omega
   obtain ⟨RI, hRI⟩ : ∃ A, gi (rs.set y 0) i = A := ⟨_, rfl⟩
   obtain ⟨Q3, hQ3⟩ : ∃ Q, IntKind.i64.wrap (RI + s) = Q := ⟨_, rfl⟩
   have hQ4 : wrap64 (RI + s) = Q3 := (wrap_w64 _).trans hQ3
   have hRR : rR rs x j s = (rs.set y 0).set i Q3 := by rw [rR_pos hj1, hyx, hij1, hRI, hQ3]
   have hGG := HG.out
   rw [hRR] at hGG
   replace HG := Lib.hid hGG
   clear hGG hRR
   have ic := own_cell HCl.out hiL
   rw [hRI] at ic
   clear hi hRI
   have o0 : X8.cell? ⟨bx, 0, none⟩ = some (.int .i64 N) := cell_of_row _ (bx) 0 _ _ _ HBo.out
   have o1 : X8.cell? ⟨bx, 1, none⟩ = some (.slice aoo os.length capo) := cell_of_row _ (bx) 1 _ _ _ HBo.out
   have o2 : X8.cell? ⟨bx, 2, none⟩ = some (.int .i64 T) := cell_of_row _ (bx) 2 _ _ _ HBo.out
   have o3 : X8.cell? ⟨bx, 3, none⟩ = some (.slice (some ⟨g1, 0, none⟩) rs.length cap1) := cell_of_row _ (bx) 3 _ _ _ HBo.out
   have s0 : X8.cell? ⟨sb, 0, none⟩ = some (.int .i64 s) := cell_of_row _ (sb) 0 _ _ _ HBs.out
   have hiw : IntKind.i64.wrap (i : Int) = (i : Int) := wrap_self hiB
   have hiw2 : wrap64 (i : Int) = (i : Int) := (wrap_w64 _).trans hiw
   clear hiB
   go_upto_region 20 with fail
   refine wp_region_noPanic ?_
   refine wp_region_U (S := (fun w' => w'.cell? ⟨bx, 3, none⟩ = some (.slice (some ⟨g1, 0, none⟩) rs.length cap1) ∧ w'.cell? ⟨g1, i, none⟩ = some (.int .i64 RI) ∧ w'.cell? ⟨sb, 0, none⟩ = some (.int .i64 s))) (k := 9) (by kernel_rfl) ⟨o3, ic, s0⟩ (fun hHeld => ?_)
   refine wpAnyU_take (i := 0) (v := ?_) rfl (by kernel_rfl) (by kernel_rfl) (by kernel_rfl) (by kernel_rfl) (by kernel_rfl) (by kernel_rfl) (fun _ _ _ h => h) (Or.inl ⟨by rfl, ?_⟩) (by assumption) ?_
   rotate_left
   ·intro w hSw; (try dsimp only at hSw); go_simp; (try with_reducible rfl)
   try simp only [Act.put, List.getElem_toArray, List.getElem_cons_zero, List.setIfInBounds_toArray, List.set_cons_zero, List.set_cons_succ]
   refine wpAnyU_take (i := 1) (v := ?_) rfl (by kernel_rfl) (by kernel_rfl) (by kernel_rfl) (by kernel_rfl) (by kernel_rfl) (by kernel_rfl) (fun _ _ _ h => h) (Or.inl ⟨by rfl, ?_⟩) (by assumption) ?_
   rotate_left
   ·intro w hSw; (try dsimp only at hSw); go_simp; (try with_reducible rfl)
   try simp only [Act.put, List.getElem_toArray, List.getElem_cons_zero, List.getElem_cons_succ, List.setIfInBounds_toArray, List.set_cons_zero, List.set_cons_succ]
   refine wpAnyU_take (i := 2) (v := ?_) rfl (by kernel_rfl) (by kernel_rfl) (by kernel_rfl) (by kernel_rfl) (by kernel_rfl) (by kernel_rfl) (fun _ _ _ h => h) (Or.inl ⟨by rfl, ?_⟩) (by assumption) ?_
   rotate_left
   ·intro w hSw; (try dsimp only at hSw); go_simp; (try with_reducible rfl)
   try simp only [Act.put, List.getElem_toArray, List.getElem_cons_zero, List.getElem_cons_succ, List.setIfInBounds_toArray, List.set_cons_zero, List.set_cons_succ]
   refine wpAnyU_take (i := 3) (v := ?_) rfl (by kernel_rfl) (by kernel_rfl) (by kernel_rfl) (by kernel_rfl) (by kernel_rfl) (by kernel_rfl) (fun _ _ _ h => h) (Or.inl ⟨by rfl, ?_⟩) (by assumption) ?_
   rotate_left
   ·intro w hSw; (try dsimp only at hSw); go_simp; (try with_reducible rfl)
   try simp only [Act.put, List.getElem_toArray, List.getElem_cons_zero, List.getElem_cons_succ, List.setIfInBounds_toArray, List.set_cons_zero, List.set_cons_succ]
   refine wpAnyU_take (i := 4) (v := ?_) rfl (by kernel_rfl) (by kernel_rfl) (by kernel_rfl) (by kernel_rfl) (by kernel_rfl) (by kernel_rfl) (fun _ _ _ h => h) (Or.inl ⟨by rfl, ?_⟩) (by assumption) ?_
   rotate_left
   ·intro w hSw; (try dsimp only at hSw); go_simp; (try with_reducible rfl)
   try simp only [Act.put, List.getElem_toArray, List.getElem_cons_zero, List.getElem_cons_succ, List.setIfInBounds_toArray, List.set_cons_zero, List.set_cons_succ]
   refine wpAnyU_take (i := 5) (v := ?_) rfl (by kernel_rfl) (by kernel_rfl) (by kernel_rfl) (by kernel_rfl) (by kernel_rfl) (by kernel_rfl) (fun _ _ _ h => h) (Or.inl ⟨by rfl, ?_⟩) (by assumption) ?_
   rotate_left
   ·intro w hSw; (try dsimp only at hSw); go_simp; (try with_reducible rfl)
   try simp only [Act.put, List.getElem_toArray, List.getElem_cons_zero, List.getElem_cons_succ, List.setIfInBounds_toArray, List.set_cons_zero, List.set_cons_succ]
   refine wpAnyU_take (i := 6) (v := ?_) rfl (by kernel_rfl) (by kernel_rfl) (by kernel_rfl) (by kernel_rfl) (by kernel_rfl) (by kernel_rfl) (fun _ _ _ h => h) (Or.inl ⟨by rfl, ?_⟩) (by assumption) ?_
   rotate_left
   ·intro w hSw; (try dsimp only at hSw); go_simp; (try with_reducible rfl)
   try simp only [Act.put, List.getElem_toArray, List.getElem_cons_zero, List.getElem_cons_succ, List.setIfInBounds_toArray, List.set_cons_zero, List.set_cons_succ]
   refine wpAnyU_take (i := 7) (v := ?_) rfl (by kernel_rfl) (by kernel_rfl) (by kernel_rfl) (by kernel_rfl) (by kernel_rfl) (by kernel_rfl) (fun _ _ _ h => h) (Or.inl ⟨by rfl, ?_⟩) (by assumption) ?_
   rotate_left
   ·intro w hSw; (try dsimp only at hSw); go_simp; (try with_reducible rfl)
   try simp only [Act.put, List.getElem_toArray, List.getElem_cons_zero, List.getElem_cons_succ, List.setIfInBounds_toArray, List.set_cons_zero, List.set_cons_succ]
   refine wpAnyU_take (i := 8) (v := ?_) rfl (by kernel_rfl) (by kernel_rfl) (by kernel_rfl) (by kernel_rfl) (by kernel_rfl) (by kernel_rfl) (fun _ _ _ h => h) (Or.inl ⟨by rfl, ?_⟩) (by assumption) ?_
   rotate_left
   ·intro w hSw; (try dsimp only at hSw); go_simp; (try with_reducible rfl)
   try simp only [Act.put, List.getElem_toArray, List.getElem_cons_zero, List.getElem_cons_succ, List.setIfInBounds_toArray, List.set_cons_zero, List.set_cons_succ]
   have hb : Below X8.heap.size X8 X8.drew := (Below.refl _ _).drew
   clear hHeld o0 o1 o2 o3 ic s0
   replace HBi := Lib.hid (hp_keep4 HBi.out hb)
   replace HBt := Lib.hid (hp_keep4 HBt.out hb)
   replace HBI := Lib.hid (hp_keep4 HBI.out hb)
   replace HBT := Lib.hid (hp_keep4 HBT.out hb)
   replace HBs := Lib.hid (hp_keep4 HBs.out hb)
   replace HBa := Lib.hid (hp_keep4 HBa.out hb)
   replace HBx := Lib.hid (hp_keep4 HBx.out hb)
   replace HBz := Lib.hid (hp_keep4 HBz.out hb)
   replace HBr := Lib.hid (hp_keep4 HBr.out hb)
   replace HBp := Lib.hid (hp_keep4 HBp.out hb)
   replace HBo := Lib.hid (hp_keep4 HBo.out hb)
   replace HO := Lib.hid (OL.keepb HO.out hb)
   replace HCl := Lib.hid (OL.keepb HCl.out hb)
   replace HW := Lib.hid (bt HW.out hb)
   clear hb
   generalize X8.drew = X9 at *
   have HST := Lib.hid (OL.stored HCl.out hrl0.symm i Q3)
   have if0 := own_fro HCl.out hiL
   have ic0 := own_cell HCl.out hiL
   refine wpAnyU_ready (rs := [9]) (by kernel_rfl) (by simp) ?_
   refine AllReadyU.past rfl (by kernel_rfl) (fun K hK => ?_) AllReadyU.nil
   go_simp
   refine hK.out _ _ ?_
   clear hK K
   try simp only [Act.put, List.getElem_toArray, List.getElem_cons_zero, List.getElem_cons_succ, List.setIfInBounds_toArray, List.set_cons_zero, List.set_cons_succ]
   refine wpAnyU_done (by kernel_rfl) ?_ _
   refine NoPanic.normal ?_
   clear if0 ic0 hiw hiw2
   have hqi := hp_gr0 HBi.out HST.out.2 hne' hui
   have hqt := hp_gr0 HBt.out HST.out.2 hne' hut
   have hqI := hp_gr0 HBI.out HST.out.2 hne' huI
   have hqT := hp_gr0 HBT.out HST.out.2 hne' huT
   have hqs := hp_gr0 HBs.out HST.out.2 hne' hus
   have hqa := hp_gr0 HBa.out HST.out.2 hne' hua
   have hqx := hp_gr0 HBx.out HST.out.2 hne' hux
   have hqz := hp_gr0 HBz.out HST.out.2 hne' huz
   have hqr := hp_gr0 HBr.out HST.out.2 hne' hur
   have hqp := hp_gr0 HBp.out HST.out.2 hne' hup
   have hqo := hp_gr HBo.out HST.out.2 hb1
   have hqw := bw_gr0 HW.out HST.out.2 hne' hXW
   have hqO := OL.kept HO.out HST.out.2 (own_apart HO.out HCl.out (by decide))
   have hqc := HST.out.1
   clear HW HO HCl HST HBo HBi HBt HBI HBT HBs HBa HBx HBz HBr HBp
   generalize hgen : X9.setCell ⟨g1, i, none⟩ (.int .i64 Q3) = XA at *
   clear hgen
   have HBi := Lib.hid hqi
   have HBt := Lib.hid hqt
   have HBI := Lib.hid hqI
   have HBT := Lib.hid hqT
   have HBs := Lib.hid hqs
   have HBa := Lib.hid hqa
   have HBx := Lib.hid hqx
   have HBz := Lib.hid hqz
   have HBr := Lib.hid hqr
   have HBp := Lib.hid hqp
   have HBo := Lib.hid hqo
   have HW := Lib.hid hqw
   have HO := Lib.hid hqO
   have HCl := Lib.hid hqc
   clear hqw hqo hqO hqc hqi hqt hqI hqT hqs hqa hqx hqz hqr hqp
   have o0 : XA.cell? ⟨bx, 0, none⟩ = some (.int .i64 N) := cell_of_row _ (bx) 0 _ _ _ HBo.out
   have o1 : XA.cell? ⟨bx, 1, none⟩ = some (.slice aoo os.length capo) := cell_of_row _ (bx) 1 _ _ _ HBo.out
   have o2 : XA.cell? ⟨bx, 2, none⟩ = some (.int .i64 T) := cell_of_row _ (bx) 2 _ _ _ HBo.out
   have o3 : XA.cell? ⟨bx, 3, none⟩ = some (.slice (some ⟨g1, 0, none⟩) rs.length cap1) := cell_of_row _ (bx) 3 _ _ _ HBo.out
   have hrl : ((rs.set y 0).set i Q3).length = rs.length := by simp
   have HCR := Lib.hid (prog_ranged N T (.slice aoo os.length capo) (.slice (some ⟨g1, 0, none⟩) rs.length cap1) os ((rs.set y 0).set i Q3) XA (OL.rl HO.out) (OL.rl HCl.out))
   generalize hRR : (rs.set y 0).set i Q3 = RR at *
   have HRR := Lib.hid hRR
   clear hRR
   cases hg : rngB os T RR with
   | false =>
    rw [hg] at HCR
    have HG2 := Lib.hid (show rG N xs c rs ws x s j = (pv0, 7) by rw [HG.out, HT.out]; exact resF_bad hg)
    clear hg
    go_wp2_with fail
    refine HCR.out.mono ?_
    rintro e w9 ⟨rfl, hb⟩
    clear o0 o1 o2 o3 HCR
    clear HO HCl
    replace HBi := Lib.hid (hp_keep4 HBi.out hb)
    replace HBt := Lib.hid (hp_keep4 HBt.out hb)
    replace HBI := Lib.hid (hp_keep4 HBI.out hb)
    replace HBT := Lib.hid (hp_keep4 HBT.out hb)
    replace HBs := Lib.hid (hp_keep4 HBs.out hb)
    replace HBa := Lib.hid (hp_keep4 HBa.out hb)
    replace HBx := Lib.hid (hp_keep4 HBx.out hb)
    replace HBz := Lib.hid (hp_keep4 HBz.out hb)
    replace HBr := Lib.hid (hp_keep4 HBr.out hb)
    replace HBp := Lib.hid (hp_keep4 HBp.out hb)
    replace HBo := Lib.hid (hp_keep4 HBo.out hb)
    replace HW := Lib.hid (bt HW.out hb)
    clear hb
    have t0 : w9.cell? ⟨X.heap.size, 0, none⟩ = some (.int .i64 0) := cell_of_row _ (X.heap.size) 0 _ _ _ HBr.out
    have tf0 : w9.frozen? ⟨X.heap.size, 0, none⟩ = false := frozen_of_row _ (X.heap.size) 0 _ _ HBr.out
    have t1 : w9.cell? ⟨X.heap.size, 1, none⟩ = some (.slice none 0 0) := cell_of_row _ (X.heap.size) 1 _ _ _ HBr.out
    have tf1 : w9.frozen? ⟨X.heap.size, 1, none⟩ = false := frozen_of_row _ (X.heap.size) 1 _ _ HBr.out
    have t2 : w9.cell? ⟨X.heap.size, 2, none⟩ = some (.int .i64 0) := cell_of_row _ (X.heap.size) 2 _ _ _ HBr.out
    have tf2 : w9.frozen? ⟨X.heap.size, 2, none⟩ = false := frozen_of_row _ (X.heap.size) 2 _ _ HBr.out
    have t3 : w9.cell? ⟨X.heap.size, 3, none⟩ = some (.slice none 0 0) := cell_of_row _ (X.heap.size) 3 _ _ _ HBr.out
    have tf3 : w9.frozen? ⟨X.heap.size, 3, none⟩ = false := frozen_of_row _ (X.heap.size) 3 _ _ HBr.out
    go_wp2_with fail
    refine bodyPost_ret (v := .tuple #[.agg #[.int .i64 0, .slice none 0 0, .int .i64 0, .slice none 0 0], .int .i64 7]) (by simp [results, Tryz.results74, go_sem, t0, t1, t2, t3]) rfl ⟨by rw [HG2.out]; exact PO.err rfl _, ?_⟩
    exact ((((HW.out).setCell (by show X.heap.size ≤ X.heap.size; omega) _).setCell (by show X.heap.size ≤ X.heap.size; omega) _).setCell (by show X.heap.size ≤ X.heap.size; omega) _).setCell (by show X.heap.size ≤ X.heap.size; omega) _
   | true =>
    rw [hg] at HCR
    have HG2 := Lib.hid (show rG N xs c rs ws x s j = (⟨N, os, T, RR⟩, 0) by rw [HG.out, HT.out]; exact resF_ok hg)
    clear hg
    go_wp2_with fail
    refine HCR.out.mono ?_
    rintro e w9 ⟨rfl, hb⟩
    clear o0 o1 o2 o3 HCR
    replace HBi := Lib.hid (hp_keep4 HBi.out hb)
    replace HBt := Lib.hid (hp_keep4 HBt.out hb)
    replace HBI := Lib.hid (hp_keep4 HBI.out hb)
    replace HBT := Lib.hid (hp_keep4 HBT.out hb)
    replace HBs := Lib.hid (hp_keep4 HBs.out hb)
    replace HBa := Lib.hid (hp_keep4 HBa.out hb)
    replace HBx := Lib.hid (hp_keep4 HBx.out hb)
    replace HBz := Lib.hid (hp_keep4 HBz.out hb)
    replace HBr := Lib.hid (hp_keep4 HBr.out hb)
    replace HBp := Lib.hid (hp_keep4 HBp.out hb)
    replace HBo := Lib.hid (hp_keep4 HBo.out hb)
    replace HO := Lib.hid (OL.keepb HO.out hb)
    replace HCl := Lib.hid (OL.keepb HCl.out hb)
    replace HW := Lib.hid (bt HW.out hb)
    clear hb
    have o0 : w9.cell? ⟨bx, 0, none⟩ = some (.int .i64 N) := cell_of_row _ (bx) 0 _ _ _ HBo.out
    have o1 : w9.cell? ⟨bx, 1, none⟩ = some (.slice aoo os.length capo) := cell_of_row _ (bx) 1 _ _ _ HBo.out
    have o2 : w9.cell? ⟨bx, 2, none⟩ = some (.int .i64 T) := cell_of_row _ (bx) 2 _ _ _ HBo.out
    have o3 : w9.cell? ⟨bx, 3, none⟩ = some (.slice (some ⟨g1, 0, none⟩) rs.length cap1) := cell_of_row _ (bx) 3 _ _ _ HBo.out
    have hn1 := own_ne HO.out HBr.out (by decide)
    have hn2 := own_ne HCl.out HBr.out (by decide)
    have t0 : w9.cell? ⟨X.heap.size, 0, none⟩ = some (.int .i64 0) := cell_of_row _ (X.heap.size) 0 _ _ _ HBr.out
    have tf0 : w9.frozen? ⟨X.heap.size, 0, none⟩ = false := frozen_of_row _ (X.heap.size) 0 _ _ HBr.out
    have t1 : w9.cell? ⟨X.heap.size, 1, none⟩ = some (.slice none 0 0) := cell_of_row _ (X.heap.size) 1 _ _ _ HBr.out
    have tf1 : w9.frozen? ⟨X.heap.size, 1, none⟩ = false := frozen_of_row _ (X.heap.size) 1 _ _ HBr.out
    have t2 : w9.cell? ⟨X.heap.size, 2, none⟩ = some (.int .i64 0) := cell_of_row _ (X.heap.size) 2 _ _ _ HBr.out
    have tf2 : w9.frozen? ⟨X.heap.size, 2, none⟩ = false := frozen_of_row _ (X.heap.size) 2 _ _ HBr.out
    have t3 : w9.cell? ⟨X.heap.size, 3, none⟩ = some (.slice none 0 0) := cell_of_row _ (X.heap.size) 3 _ _ _ HBr.out
    have tf3 : w9.frozen? ⟨X.heap.size, 3, none⟩ = false := frozen_of_row _ (X.heap.size) 3 _ _ HBr.out
    go_wp2_with fail
    refine bodyPost_ret (v := .tuple #[.agg #[.int .i64 N, .slice aoo os.length capo, .int .i64 T, .slice (some ⟨g1, 0, none⟩) rs.length cap1], .int .i64 0]) (by simp [results, Tryz.results74, go_sem, t0, t1, t2, t3]) rfl ⟨by rw [HG2.out]; exact ⟨_, _, rfl, own_other4n HO.out hn1 _ _ _ _, OL.mono (own_other4n HCl.out hn2 _ _ _ _) hXW⟩, ?_⟩
    exact ((((HW.out).setCell (by show X.heap.size ≤ X.heap.size; omega) _).setCell (by show X.heap.size ≤ X.heap.size; omega) _).setCell (by show X.heap.size ≤ X.heap.size; omega) _).setCell (by show X.heap.size ≤ X.heap.size; omega) _
theorem prog_rst1 (N M x j ib tb sb ab xb zb IA TA : Nat) (c s : Int) (v rv zv : Value) (xs rs ws : List Int) (X : World) (hM : M = N + 1)
  (hi : X.heap[ib]? = some (.cells #[.slice (some ⟨IA, 0, none⟩) M M] 109 (0, 0))) (ht : X.heap[tb]? = some (.cells #[.slice (some ⟨TA, 0, none⟩) M M] 33 (0, 0)))
  (hia : X.heap[IA]? = some (.cells ((isLz N xs x s M).map Value.bool).toArray 4 (0, 0))) (hta : X.heap[TA]? = some (.cells ((atLz N xs x s M).map (Value.int .i64)).toArray 2 (0, 0)))
  (hs : X.heap[sb]? = some (.cells #[.int .i64 s] 2 (0, 0))) (ha : X.heap[ab]? = some (.cells #[.int .i64 N, zv] 32 (0, 0))) (hx : X.heap[xb]? = some (.cells #[.int .i64 x] 3 (0, 0))) (hz : X.heap[zb]? = some (.cells #[.int .i64 N, v, .int .i64 c, rv] 35 (0, 0)))
  (hv : RL X.heap.size X v xs) (hr : RL X.heap.size X rv rs) (hzv : RL X.heap.size X zv ws) (hok : OkZ N xs) (hlr : rs.length = N) (hx1 : 1 ≤ x) (hxN : x ≤ N) (hj : j ≤ N) :
  Calls Tryz.prog 74 #[.int .i64 j, .pointer (some ⟨ib, 0, none⟩), .pointer (some ⟨tb, 0, none⟩), .pointer (some ⟨sb, 0, none⟩), .pointer (some ⟨ab, 0, none⟩), .pointer (some ⟨xb, 0, none⟩), .pointer (some ⟨zb, 0, none⟩)] X fun e w' => PO X.heap.size (rG N xs c rs ws x s j) e w' ∧ Below X.heap.size X w' := by
 by_cases h : j = 0
 ·exact prog_rst1_zero N M x j ib tb sb ab xb zb IA TA c s v rv zv xs rs ws X hM hi ht hia hta hs ha hx hz hv hr hzv hok hlr hx1 hxN hj h
 ·exact prog_rst1_more N M x j ib tb sb ab xb zb IA TA c s v rv zv xs rs ws X hM hi ht hia hta hs ha hx hz hv hr hzv hok hlr hx1 hxN hj (by omega)
end Go.Proofs.YtfphlpglgcmljaaGreat
