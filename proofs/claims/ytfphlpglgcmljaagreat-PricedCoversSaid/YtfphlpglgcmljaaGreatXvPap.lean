/- Part of the proof of priced_covers_proved: Pzo, Pap. -/
import Derived.Test.YtfphlpglgcmljaaGreatXvPzc
import Derived.Test.YtfphlpglgcmljaaGreatXvQ
import Derived.Test.YtfphlpglgcmljaaGreatXvBox
import Derived.Test.YtfphlpglgcmljaaGreatXvRmu
namespace Go.Proofs.YtfphlpglgcmljaaGreat
open Go.RowKit
set_option linter.unusedVariables false
theorem hp_lt3 {w : World} {b : Nat} {o : Obj} (h : w.heap[b]? = some o) : b < w.heap.size := (Array.getElem?_eq_some_iff.1 h).1
theorem hp_keep4 {w w' : World} {b : Nat} {o : Obj} (h : w.heap[b]? = some o) (hb : Below w.heap.size w w') : w'.heap[b]? = some o := (hb.block b (hp_lt3 h)).trans h
theorem pzE_no {n c : Int} {xs rs : List Int} (h : pzB n xs c rs = false) : pzE n xs c rs = 2 := by unfold pzE; rw [h]; rfl
theorem pzE_yes {n c : Int} {xs rs : List Int} (h : pzB n xs c rs = true) : pzE n xs c rs = 0 := by unfold pzE; rw [h]; rfl
theorem pzB_inv {n c : Int} {xs rs : List Int} (h : pzB n xs c rs = true) : OkZ n xs ∧ (rs.length : Int) = n ∧ rngB xs c rs = true := by
 unfold pzB at h
 simp only [Bool.and_eq_true, decide_eq_true_eq] at h
 exact ⟨h.1.1, h.1.2, h.2⟩
theorem rngB_c {xs rs : List Int} {c : Int} (h : rngB xs c rs = true) : -9223372036854775808 ≤ c ∧ c ≤ 9223372036854775807 := by
 unfold rngB cstB btw at h
 simp only [Bool.and_eq_true, decide_eq_true_eq] at h
 omega
theorem pzB_nat {n c : Int} {xs rs : List Int} (h : pzB n xs c rs = true) : ∃ N : Nat, n = N ∧ OkZ N xs ∧ rs.length = N ∧ -9223372036854775808 ≤ c ∧ c ≤ 9223372036854775807 := by
 obtain ⟨h1, h2, h3⟩ := pzB_inv h
 exact ⟨rs.length, h2.symm, by rw [h2]; exact h1, rfl, rngB_c h3⟩
set_option linter.unusedVariables false
def lowF (N : Nat) (xs : List Int) (i : Nat) : Int := -(ent N xs 0 i / 2)
theorem ent_bd {N : Nat} {xs : List Int} (h : OkZ N xs) {i j : Nat} (hi : i ≤ N) (hj : j ≤ N) : -2147483648 ≤ ent N xs i j ∧ ent N xs i j ≤ 1099511627776 := by
 have := (h.el hi hj).val
 rw [vld_iff] at this
 unfold ent
 omega
def crTo (N : Nat) (xs : List Int) (k : Nat) : List Int := (List.range (N + 1)).map fun j => if 1 ≤ j ∧ j ≤ k then lowF N xs j else 0
theorem crTo_len (N : Nat) (xs : List Int) (k : Nat) : (crTo N xs k).length = N + 1 := by simp [crTo]
theorem crTo_at {N : Nat} {xs : List Int} {k j : Nat} (hj : j ≤ N) : gi (crTo N xs k) j = if 1 ≤ j ∧ j ≤ k then lowF N xs j else 0 := by
 unfold gi crTo
 rw [List.getD_eq_getElem?_getD, List.getElem?_map, List.getElem?_range (by omega)]
 rfl
theorem crTo_succ {N : Nat} {xs : List Int} {k : Nat} (hk : k < N) : crTo N xs (k + 1) = (crTo N xs k).set (k + 1) (lowF N xs (k + 1)) := by
 refine ext_gi (by rw [List.length_set, crTo_len, crTo_len]) (fun j hj => ?_)
 rw [crTo_len] at hj
 rw [crTo_at (by omega)]
 unfold gi
 rw [List.getD_eq_getElem?_getD, List.getElem?_set]
 by_cases e : k + 1 = j
 ·subst e
  rw [if_pos (show 1 ≤ k + 1 ∧ k + 1 ≤ k + 1 by omega), if_pos rfl, if_pos (by rw [crTo_len]; omega)]
  rfl
 ·rw [if_neg e, ← List.getD_eq_getElem?_getD]
  show _ = gi (crTo N xs k) j
  rw [crTo_at (by omega)]
  by_cases c : 1 ≤ j ∧ j ≤ k
  ·rw [if_pos c, if_pos (by omega)]
  ·rw [if_neg c, if_neg (by omega)]
theorem crTo_zero (N : Nat) (xs : List Int) : crTo N xs 0 = List.replicate (N + 1) 0 := by
 refine List.ext_getElem (by rw [crTo_len, List.length_replicate]) (fun j h1 h2 => ?_)
 rw [List.getElem_replicate]
 simp only [crTo, List.getElem_map, List.getElem_range]
 rw [if_neg (by omega)]
def crR (N : Nat) (xs : List Int) (k : Nat) : List Int := (List.range k).map fun j => lowF N xs (j + 1)
theorem crR_len (N : Nat) (xs : List Int) (k : Nat) : (crR N xs k).length = k := by simp [crR]
theorem crR_succ (N : Nat) (xs : List Int) (k : Nat) : crR N xs (k + 1) = crR N xs k ++ [lowF N xs (k + 1)] := by
 unfold crR; rw [List.range_succ, List.map_append]; rfl
theorem crR_at {N : Nat} {xs : List Int} {k j : Nat} (hj : j < k) : gi (crR N xs k) j = lowF N xs (j + 1) := by
 unfold gi crR
 rw [List.getD_eq_getElem?_getD, List.getElem?_map, List.getElem?_range hj]
 rfl
def cstTo (N : Nat) (xs : List Int) (c : Int) (rs : List Int) (v : Nat → Int) : Nat → Int
 | 0 => c
 | k + 1 => IntKind.i64.wrap (cstTo N xs c rs v k + IntKind.i64.wrap (gi rs k * IntKind.i64.wrap (v (k + 1) - lowF N xs (k + 1))))
theorem cstTo_congr {N : Nat} {xs : List Int} {c : Int} {rs : List Int} {v v' : Nat → Int} : ∀ k, (∀ j, 1 ≤ j → j ≤ k → v j = v' j) → cstTo N xs c rs v k = cstTo N xs c rs v' k
 | 0, _ => rfl
 | k + 1, h => by
  show IntKind.i64.wrap _ = IntKind.i64.wrap _
  rw [cstTo_congr k (fun j h1 h2 => h j h1 (by omega)), h (k + 1) (by omega) (Nat.le_refl _)]
set_option maxHeartbeats 1000000 in
theorem prog_bound (N : Nat) (v : Value) (i j : Int) (xs : List Int) (w : World) (hv : RL w.heap.size w v xs) (hok : OkZ N xs) (h1 : 0 ≤ i) (h2 : i ≤ N) (h3 : 0 ≤ j) (h4 : j ≤ N) :
  Calls Tryz.prog 63 #[.agg #[.int .i64 N, v], .int .i64 i, .int .i64 j] w fun e w' => e = .returned (.tuple #[.int .i64 (ent N xs i.toNat j.toNat / 2), .bool (decide (ent N xs i.toNat j.toNat ≠ 1099511627776))]) ∧ Below w.heap.size w w' := by
 have hN : N ≤ 10 := by have := hok.hi; omega
 have hx : xs.length = (N + 1) * (N + 1) := by have := hok.len; rwa [Int.toNat_natCast] at this
 obtain ⟨i, rfl⟩ := Int.eq_ofNat_of_zero_le h1
 obtain ⟨j, rfl⟩ := Int.eq_ofNat_of_zero_le h3
 have hi : i ≤ N := by omega
 have hj : j ≤ N := by omega
 obtain ⟨ao, cap, rfl, hle, h0⟩ := hv.open
 obtain ⟨b, off, rfl, hb, hc⟩ := h0 (by rw [hx]; exact Nat.mul_pos (by omega) (by omega))
 have hloc := Loc.one w (.cells #[.int .i64 N, .slice (some ⟨b, off, none⟩) xs.length cap] 32) none
 have hlt := idx_lt N i j hi hj
 have m1 := ((bcell (below_grownBy hloc.grown)).1 _ _ hb).trans (hc (i * (N + 1) + j) (by rw [hx]; exact hlt))
 have hE : gi xs (i * (N + 1) + j) = ent N xs i j := rfl
 rw [hE] at m1
 have hbd := idx_bd N i hN hi
 have hn := idx_nat N i j
 have hL : (i : Int) * ((N : Int) + 1) + (j : Int) < xs.length := by
  have e : ((i * (N + 1) + j : Nat) : Int) = (i : Int) * ((N : Int) + 1) + j := by push_cast; rfl
  rw [← hx] at hlt; omega
 have hz : (0 : Int) ≤ (i : Int) * ((N : Int) + 1) + (j : Int) := by omega
 have hw1 : IntKind.i64.wrap ((i : Int) * ((N : Int) + 1)) = (i : Int) * ((N : Int) + 1) := IntWalk.i64_in _ (by omega)
 have hw2 : IntKind.i64.wrap ((i : Int) * ((N : Int) + 1) + (j : Int)) = (i : Int) * ((N : Int) + 1) + (j : Int) := IntWalk.i64_in _ (by omega)
 rw [Int.toNat_natCast, Int.toNat_natCast]
 clear hv h0 hc hok hE h1 h2 h3 h4 hx hlt
 obtain ⟨E, hE⟩ : ∃ E, ent N xs i j = E := ⟨_, rfl⟩
 rw [hE] at m1 ⊢
 clear hE
 by_cases hn' : E = 1099511627776
 ·have hnb : (E != 1099511627776) = false := by simpa using hn'
  have hd : decide (E ≠ 1099511627776) = false := by simpa using hn'
  rw [hd]
  clear hn' hd
  go_enter Tryz.func63, Tryz.ntmps63
  go_wp2_with fail
  go_ret2
  exact ⟨rfl, below_grownBy hloc.grown⟩
 ·have hnb : (E != 1099511627776) = true := by simpa using hn'
  have hd : decide (E ≠ 1099511627776) = true := by simpa using hn'
  rw [hd]
  clear hn' hd
  go_enter Tryz.func63, Tryz.ntmps63
  go_wp2_with fail
  go_ret2
  exact ⟨rfl, below_grownBy hloc.grown⟩
set_option maxHeartbeats 1000000 in
theorem prog_low (N : Nat) (v : Value) (i : Int) (xs : List Int) (w : World) (hv : RL w.heap.size w v xs) (hok : OkZ N xs) (h1 : 0 ≤ i) (h2 : i ≤ N) :
  Calls Tryz.prog 59 #[.agg #[.int .i64 N, v], .int .i64 i] w fun e w' => e = .returned (.int .i64 (lowF N xs i.toNat)) ∧ Below w.heap.size w w' := by
 obtain ⟨ao, cap, rfl, hle, _⟩ := hv.open
 have hloc := Loc.one w (.cells #[.int .i64 N, .slice ao xs.length cap] 32) none
 have HC := Lib.hid (prog_bound N _ 0 i xs _ (hv.keepb (below_grownBy hloc.grown)) hok (by omega) (by omega) h1 h2)
 have hb := ent_bd hok (Nat.zero_le N) (show i.toNat ≤ N by omega)
 unfold lowF
 have e0 : (0 : Int).toNat = 0 := rfl
 rw [e0] at HC
 generalize ent N xs 0 i.toNat = E at *
 have hq : -1073741824 ≤ E / 2 ∧ E / 2 ≤ 549755813888 := by omega
 obtain ⟨q1, q2⟩ := hq
 generalize decide (E ≠ 1099511627776) = fl at HC
 generalize E / 2 = q at *
 clear hv hok h1 h2 hb e0
 go_enter Tryz.func59, Tryz.ntmps59
 go_wp2_with fail
 refine HC.out.mono ?_
 rintro e w1 ⟨rfl, hb1⟩
 go_wp2_with fail
 go_ret
 exact ⟨rfl, below_grownBy (hloc.next (grownBy_below hb1 none) (fun _ h => by cases h)).grown⟩
set_option maxHeartbeats 1000000 in
theorem ref_bound (N : Nat) (v : Value) (i j : Int) (xs : List Int) (w : World) (hv : RL w.heap.size w v xs) (hok : OkZ N xs) (h1 : 0 ≤ i) (h2 : i ≤ N) (h3 : 0 ≤ j) (h4 : j ≤ N) :
  Calls Tryz.prog 68 #[.agg #[.int .i64 N, v], .int .i64 i, .int .i64 j] w fun e w' => e = .returned (.tuple #[.int .i64 (ent N xs i.toNat j.toNat / 2), .bool (decide (ent N xs i.toNat j.toNat ≠ 1099511627776))]) ∧ Below w.heap.size w w' := by
 have hN : N ≤ 10 := by have := hok.hi; omega
 have hx : xs.length = (N + 1) * (N + 1) := by have := hok.len; rwa [Int.toNat_natCast] at this
 obtain ⟨i, rfl⟩ := Int.eq_ofNat_of_zero_le h1
 obtain ⟨j, rfl⟩ := Int.eq_ofNat_of_zero_le h3
 have hi : i ≤ N := by omega
 have hj : j ≤ N := by omega
 obtain ⟨ao, cap, rfl, hle, h0⟩ := hv.open
 obtain ⟨b, off, rfl, hb, hc⟩ := h0 (by rw [hx]; exact Nat.mul_pos (by omega) (by omega))
 have hloc := Loc.one w (.cells #[.int .i64 N, .slice (some ⟨b, off, none⟩) xs.length cap] 32) none
 have hlt := idx_lt N i j hi hj
 have m1 := ((bcell (below_grownBy hloc.grown)).1 _ _ hb).trans (hc (i * (N + 1) + j) (by rw [hx]; exact hlt))
 have hE : gi xs (i * (N + 1) + j) = ent N xs i j := rfl
 rw [hE] at m1
 have hbd := idx_bd N i hN hi
 have hn := idx_nat N i j
 have hL : (i : Int) * ((N : Int) + 1) + (j : Int) < xs.length := by
  have e : ((i * (N + 1) + j : Nat) : Int) = (i : Int) * ((N : Int) + 1) + j := by push_cast; rfl
  rw [← hx] at hlt; omega
 have hz : (0 : Int) ≤ (i : Int) * ((N : Int) + 1) + (j : Int) := by omega
 have hw1 : IntKind.i64.wrap ((i : Int) * ((N : Int) + 1)) = (i : Int) * ((N : Int) + 1) := IntWalk.i64_in _ (by omega)
 have hw2 : IntKind.i64.wrap ((i : Int) * ((N : Int) + 1) + (j : Int)) = (i : Int) * ((N : Int) + 1) + (j : Int) := IntWalk.i64_in _ (by omega)
 rw [Int.toNat_natCast, Int.toNat_natCast]
 clear hv h0 hc hok hE h1 h2 h3 h4 hx hlt
 obtain ⟨E, hE⟩ : ∃ E, ent N xs i j = E := ⟨_, rfl⟩
 rw [hE] at m1 ⊢
 clear hE
 by_cases hn' : E = 1099511627776
 ·have hnb : (E != 1099511627776) = false := by simpa using hn'
  have hd : decide (E ≠ 1099511627776) = false := by simpa using hn'
  rw [hd]
  clear hn' hd
  go_enter Tryz.func68, Tryz.ntmps68
  go_wp2_with fail
  go_ret2
  exact ⟨rfl, below_grownBy hloc.grown⟩
 ·have hnb : (E != 1099511627776) = true := by simpa using hn'
  have hd : decide (E ≠ 1099511627776) = true := by simpa using hn'
  rw [hd]
  clear hn' hd
  go_enter Tryz.func68, Tryz.ntmps68
  go_wp2_with fail
  go_ret2
  exact ⟨rfl, below_grownBy hloc.grown⟩
set_option maxHeartbeats 1000000 in
theorem ref_low (N : Nat) (v : Value) (i : Int) (xs : List Int) (w : World) (hv : RL w.heap.size w v xs) (hok : OkZ N xs) (h1 : 0 ≤ i) (h2 : i ≤ N) :
  Calls Tryz.prog 69 #[.agg #[.int .i64 N, v], .int .i64 i] w fun e w' => e = .returned (.int .i64 (lowF N xs i.toNat)) ∧ Below w.heap.size w w' := by
 obtain ⟨ao, cap, rfl, hle, _⟩ := hv.open
 have hloc := Loc.one w (.cells #[.int .i64 N, .slice ao xs.length cap] 32) none
 have HC := Lib.hid (ref_bound N _ 0 i xs _ (hv.keepb (below_grownBy hloc.grown)) hok (by omega) (by omega) h1 h2)
 have hb := ent_bd hok (Nat.zero_le N) (show i.toNat ≤ N by omega)
 unfold lowF
 have e0 : (0 : Int).toNat = 0 := rfl
 rw [e0] at HC
 generalize ent N xs 0 i.toNat = E at *
 have hq : -1073741824 ≤ E / 2 ∧ E / 2 ≤ 549755813888 := by omega
 obtain ⟨q1, q2⟩ := hq
 generalize decide (E ≠ 1099511627776) = fl at HC
 generalize E / 2 = q at *
 clear hv hok h1 h2 hb e0
 go_enter Tryz.func69, Tryz.ntmps69
 go_wp2_with fail
 refine HC.out.mono ?_
 rintro e w1 ⟨rfl, hb1⟩
 go_wp2_with fail
 go_ret
 exact ⟨rfl, below_grownBy (hloc.next (grownBy_below hb1 none) (fun _ h => by cases h)).grown⟩
set_option linter.unusedVariables false
theorem Tryz.infL64 : (Tryz.prog.info? 2).map (fun i => (i.zero, i.size, i.bytes)) = some (some (.int .i64 0), 1, 8) := by kernel_rfl
theorem Tryz.undL64 : Tryz.prog.underlying 33 = some (.slice 2) := by kernel_rfl
theorem rs_one2v (w : World) (u : Value) (e : Nat) : RS (w.heap.size + 1) (w.alloc (.cells #[u] e)) (.slice (some ⟨w.heap.size, 0, none⟩) 1 1) 1 [u] := rs_one w u e
def LP (t base : Nat) (ys : List Int) (e : Ending) (w' : World) : Prop := ∃ v', e = .returned v' ∧ OL t base w' v' ys
set_option maxRecDepth 100000 in
set_option maxHeartbeats 2000000 in
theorem prog_corner (N : Nat) (v : Value) (xs : List Int) (w : World) (hv : RL w.heap.size w v xs) (hok : OkZ N xs) :
  Calls Tryz.prog 76 #[.agg #[.int .i64 N, v]] w fun e w' => LP 2 w.heap.size (crTo N xs N) e w' ∧ Below w.heap.size w w' := by
 have hN : N ≤ 10 := by have := hok.hi; omega
 obtain ⟨ao, cap, rfl, hle, _⟩ := hv.open
 have Hv := Lib.hid hv
 have HOK := Lib.hid hok
 have Hloc := Lib.hid (Loc.one w (.cells #[.int .i64 N, .slice ao xs.length cap] 32) none)
 obtain ⟨i0, hi, hz0, hz1, hz2⟩ := info_parts Tryz.infL64
 have Hi := Lib.hid hi
 have Hz0 := Lib.hid hz0
 have Hz1 := Lib.hid hz1
 have Hz2 := Lib.hid hz2
 clear hv hok hi hz0 hz1 hz2
 go_enter Tryz.func76, Tryz.ntmps76
 go_wp2_with (refine wpList_make_full _ rfl (.tmp 7) (.tmp 7) 33 rfl (w.heap.size + 1) 2 i0 (.int .i64 0) 1 Tryz.undL64 Hi.out Hz0.out Hz1.out .i64 .i64 (N + 1) (N + 1) (N + 1) rfl rfl rfl rfl ?_ ?_ ?_ ?_; (rw [Hz2.out]; omega); (unfold maxLen; omega); (simp); (intro w1 hown1 hg1; have z0 : w1.cell? ⟨w.heap.size, 0, none⟩ = some (.int .i64 N) := (Hloc.out.next hg1 (fun _ h => by cases h)).cell 0 rfl 0))
 have hown1' : OL 2 (w.heap.size + 1) w1 (.slice (some ⟨w.heap.size + 1, 0, none⟩) (N + 1) (N + 1)) (crTo N xs 0) := by
  have e : (madeCells (Value.int .i64 0).cells ((N + 1) * 1)).toList = (crTo N xs 0).map (Value.int .i64) := by
   rw [Nat.mul_one]; show (madeCells #[Value.int .i64 0] (N + 1)).toList = _
   rw [toList_madeCells_one, crTo_zero, List.map_replicate]
  rw [e] at hown1
  unfold OL
  rw [crTo_len]
  simpa using hown1
 have hloc1 := Hloc.out.next hg1 (fun _ h => by cases h)
 have Hloc1 := Lib.hid hloc1
 have Hown1 := Lib.hid hown1'
 clear hown1 hg1 hown1' hloc1 z0
 generalize hG : w.heap.size + 1 = g at *
 go_loopw [4, 11] (fun _ i wr => ∃ k : Nat, k ≤ N ∧ i = .int .i64 k ∧ OL 2 g wr (.slice (some ⟨g, 0, none⟩) (N + 1) (N + 1)) (crTo N xs k) ∧ Loc w wr none [.cells #[.int .i64 N, .slice ao xs.length cap] 32]) (fun _ i _ => N - (intOf i).toNat)
 case atStart => exact ⟨0, Nat.zero_le _, rfl, Hown1.out, Hloc1.out⟩
 case round =>
  clear Hown1 Hloc1
  obtain ⟨k, hk, rfl, hown, hloc⟩ := hrel
  have Hown := Lib.hid hown
  clear hown
  by_cases hlt : k < N
  ·have htk : decide ((k : Int) < (N : Int)) = true := by simp; omega
   have z0 : wr.cell? ⟨w.heap.size, 0, none⟩ = some (.int .i64 N) := hloc.cell 0 rfl 0
   have z1 : wr.cell? ⟨w.heap.size, 1, none⟩ = some (.slice ao xs.length cap) := hloc.cell 0 rfl 1
   have HC := Lib.hid (prog_low N _ ((k : Int) + 1) xs wr (Hv.out.keepb (below_grownBy hloc.grown)) HOK.out (by omega) (by omega))
   have HE := Lib.hid (show lowF N xs ((k : Int) + 1).toNat = lowF N xs (k + 1) by rw [show ((k : Int) + 1).toNat = k + 1 by omega])
   rw [HE.out] at HC
   have k0 : (k : Int) + 1 < (N : Int) + 1 := by omega
   have k1 : (0 : Int) ≤ (k : Int) + 1 := by omega
   have k2 : ((k : Int) + 1).toNat = k + 1 := by omega
   have HS := Lib.hid (crTo_succ (xs := xs) hlt)
   have Hlen := Lib.hid (crTo_len N xs k)
   generalize lowF N xs (k + 1) = L at HC HS
   go_wp2_with fail
   refine HC.out.mono ?_
   rintro e w2 ⟨rfl, hb2⟩
   have hloc2 := hloc.next (grownBy_below hb2 none) (fun _ h => by cases h)
   have hown2 := OL.keepb Hown.out hb2
   obtain ⟨x1, x2⟩ := ol_cell hown2 (k := k + 1) (by rw [Hlen.out]; omega)
   have Hst := Lib.hid (hown2.stored (by rw [Hlen.out]) (k + 1) L)
   have hgs : g < w2.heap.size := (World.ownsRow.lt hown2 g rfl).2
   clear hb2 hloc z0 z1 hown2
   go_wp2_with fail
   go_roundw
   case rel => exact ⟨k + 1, by omega, by go_num, by rw [HS.out]; exact Hst.out.1, hloc2.anyrow Hst.out.2 (fun g' e => by cases e; show w.heap.size + 1 ≤ g; omega)⟩
   case measure => simp [intOf]; omega
  ·have htk : decide ((k : Int) < (N : Int)) = false := by simp; omega
   obtain rfl : k = N := by omega
   go_wp2_with fail
   go_ret
   exact ⟨⟨_, rfl, OL.mono Hown.out (by omega)⟩, below_grownBy hloc.grown⟩
set_option maxRecDepth 100000 in
set_option maxHeartbeats 2000000 in
theorem ref_corner (N : Nat) (v : Value) (xs : List Int) (w : World) (hv : RL w.heap.size w v xs) (hok : OkZ N xs) :
  Calls Tryz.prog 82 #[.agg #[.int .i64 N, v]] w fun e w' => LP 2 w.heap.size (crR N xs N) e w' ∧ Below w.heap.size w w' := by
 have hN : N ≤ 10 := by have := hok.hi; omega
 obtain ⟨ao, cap, rfl, hle, _⟩ := hv.open
 have Hv := Lib.hid hv
 have HOK := Lib.hid hok
 have hloc := Loc.one w (.cells #[.int .i64 N, .slice ao xs.length cap] 32) none
 obtain ⟨i0, hi, hz0, hz1, hz2⟩ := info_parts Tryz.infL64
 have Hi := Lib.hid hi
 have Hz0 := Lib.hid hz0
 have Hz1 := Lib.hid hz1
 have Hz2 := Lib.hid hz2
 clear hv hok hi hz0 hz1 hz2
 go_enter Tryz.func82, Tryz.ntmps82
 go_wp2_with fail
 go_loopw [3, 4] (fun o i wr => ∃ k : Nat, k ≤ N ∧ i = .int .i64 ((k : Int) + 1) ∧ OL 2 (w.heap.size + 1) wr o (crR N xs k) ∧ Loc w wr none [.cells #[.int .i64 N, .slice ao xs.length cap] 32]) (fun _ i _ => N + 1 - (intOf i).toNat)
 case atStart => exact ⟨0, Nat.zero_le _, rfl, OL.nil _ _ _, hloc⟩
 case round =>
  clear hloc
  obtain ⟨k, hk, rfl, hown, hloc⟩ := hrel
  have Hown := Lib.hid hown
  clear hown
  have z0 : wr.cell? ⟨w.heap.size, 0, none⟩ = some (.int .i64 N) := hloc.cell 0 rfl 0
  by_cases hlt : k < N
  ·have htk : decide ((k : Int) + 1 ≤ (N : Int)) = true := by simp; omega
   have z1 : wr.cell? ⟨w.heap.size, 1, none⟩ = some (.slice ao xs.length cap) := hloc.cell 0 rfl 1
   have HC := Lib.hid (ref_low N _ ((k : Int) + 1) xs wr (Hv.out.keepb (below_grownBy hloc.grown)) HOK.out (by omega) (by omega))
   have HE := Lib.hid (show lowF N xs ((k : Int) + 1).toNat = lowF N xs (k + 1) by rw [show ((k : Int) + 1).toNat = k + 1 by omega])
   rw [HE.out] at HC
   have HS := Lib.hid (crR_succ N xs k)
   have Hlen := Lib.hid (crR_len N xs k)
   generalize lowF N xs (k + 1) = L at HC HS
   go_wp2_with (first
    | (go_at_call 69; refine HC.out.mono ?_; rintro e w2 ⟨rfl, hb2⟩; have hloc2 := hloc.next (grownBy_below hb2 none) (fun _ h => by cases h); have hown2 := OL.keepb Hown.out hb2; have hlocB := hloc2.next (World.grownBy_alloc w2 (.cells #[.int .i64 L] 2) none) (fun _ h => by cases h); have hownB := Lib.hid (World.ownsRow.alloc (show w2.ownsRow _ _ _ _ _ _ from hown2) (.cells #[.int .i64 L] 2)); rw [Hlen.out] at hownB; have hrl := Lib.hid (rs_one2v w2 (.int .i64 L) 2); have hWs : w.heap.size + 1 ≤ w2.heap.size := hloc2.size; clear hb2 hloc z0 z1 hown2)
    | (at_builtin; (refine wpList_append_rs rfl (.tmp 11) (.tmp 15) 33 rfl (w.heap.size + 1) 2 i0 (.int .i64 0) 1 8 Tryz.undL64 Hi.out Hz0.out Hz1.out Hz2.out rfl (by decide) u3 k ((crR N xs k).map (Value.int .i64)) rfl hownB.out (w2.heap.size + 1) (.slice (some ⟨w2.heap.size, 0, none⟩) 1 1) rfl 1 [.int .i64 L] hrl.out rfl ?_ ?_ ?_ ?_ ?_; (intro u hu; simp only [List.mem_cons, List.not_mem_nil, or_false] at hu; rcases hu with rfl; rfl); (unfold maxLen; omega); omega; (simp; omega); intro v' w' ho' hg')))
   go_roundw
   case rel => exact ⟨k + 1, by omega, by go_num, by rw [HS.out]; unfold OL; rw [List.length_append, Hlen.out, List.map_append]; exact ho', hlocB.anyrow hg' (fun g e => (World.ownsRow.lt hownB.out g e).1)⟩
   case measure => simp [intOf]; omega
  ·have htk : decide ((k : Int) + 1 ≤ (N : Int)) = false := by simp; omega
   obtain rfl : k = N := by omega
   go_wp2_with fail
   go_ret
   exact ⟨⟨_, rfl, OL.mono Hown.out (by omega)⟩, below_grownBy hloc.grown⟩
set_option maxRecDepth 100000 in
set_option maxHeartbeats 4000000 in
theorem prog_cost (N : Nat) (c : Int) (v rv vv : Value) (xs rs vs : List Int) (w : World) (hv : RL w.heap.size w v xs) (hr : RL w.heap.size w rv rs) (hvv : RL w.heap.size w vv vs) (hok : OkZ N xs) (hlr : rs.length = N) (hlv : vs.length = N + 1) :
  Calls Tryz.prog 77 #[.agg #[.int .i64 N, v, .int .i64 c, rv], vv] w fun e w' => e = .returned (.int .i64 (cstTo N xs c rs (fun j => gi vs j) N)) ∧ Below w.heap.size w w' := by
 have hN : N ≤ 10 := by have := hok.hi; omega
 obtain ⟨ao, cap, rfl, hle, _⟩ := hv.open
 obtain ⟨aor, capr, rfl, hler, h0r⟩ := hr.open
 obtain ⟨aov, capv, rfl, hlev, h0v⟩ := hvv.open
 have hloc := Loc.one w (.cells #[.int .i64 N, .slice ao xs.length cap, .int .i64 c, .slice aor rs.length capr] 35) none
 have Hv := Lib.hid hv
 have HOK := Lib.hid hok
 have H0r := Lib.hid h0r
 have H0v := Lib.hid h0v
 have Hlr := Lib.hid hlr
 have Hlv := Lib.hid hlv
 clear hv hr hvv hok h0r h0v hlr hlv
 go_enter Tryz.func77, Tryz.ntmps77
 go_wp2_with fail
 go_loopw [5, 6, 7, 13] (fun s5 _ _ i wr => ∃ k : Nat, k ≤ N ∧ s5 = .int .i64 (cstTo N xs c rs (fun j => gi vs j) k) ∧ i = .int .i64 k ∧ Loc w wr none [.cells #[.int .i64 N, .slice ao xs.length cap, .int .i64 c, .slice aor rs.length capr] 35]) (fun _ _ _ i _ => N - (intOf i).toNat)
 case atStart => exact ⟨0, Nat.zero_le _, rfl, rfl, hloc⟩
 case round =>
  clear hloc
  obtain ⟨k, hk, rfl, rfl, hloc⟩ := hrel
  have z0 : wr.cell? ⟨w.heap.size, 0, none⟩ = some (.int .i64 N) := hloc.cell 0 rfl 0
  have z1 : wr.cell? ⟨w.heap.size, 1, none⟩ = some (.slice ao xs.length cap) := hloc.cell 0 rfl 1
  by_cases hlt : k < N
  ·have htk : k < rs.length := by have := Hlr.out; omega
   obtain ⟨br, or', rfl, hbr, hcr⟩ := H0r.out (by have := Hlr.out; omega)
   obtain ⟨bv, ov, rfl, hbv, hcv⟩ := H0v.out (by have := Hlv.out; omega)
   have z3 : wr.cell? ⟨w.heap.size, 3, none⟩ = some (.slice (some ⟨br, or', none⟩) rs.length capr) := hloc.cell 0 rfl 3
   have r0 := ((bcell (below_grownBy hloc.grown)).1 _ _ hbr).trans (hcr k (by have := Hlr.out; omega))
   have v0 := ((bcell (below_grownBy hloc.grown)).1 _ _ hbv).trans (hcv (k + 1) (by have := Hlv.out; omega))
   have HC := Lib.hid (fun w' (hb : Below w.heap.size w w') => prog_low N _ ((k : Int) + 1) xs w' (Hv.out.keepb hb) HOK.out (by omega) (by omega))
   have HE := Lib.hid (show lowF N xs ((k : Int) + 1).toNat = lowF N xs (k + 1) by rw [show ((k : Int) + 1).toNat = k + 1 by omega])
   rw [HE.out] at HC
   have HT := Lib.hid (show cstTo N xs c rs (fun j => gi vs j) (k + 1) = IntKind.i64.wrap (cstTo N xs c rs (fun j => gi vs j) k + IntKind.i64.wrap (gi rs k * IntKind.i64.wrap (gi vs (k + 1) - lowF N xs (k + 1)))) from rfl)
   have k0 : (k : Int) < rs.length := by have := Hlr.out; omega
   have k3 : (k : Int) + 1 < vs.length := by have := Hlv.out; omega
   have k1 : (0 : Int) ≤ (k : Int) := by omega
   have k4 : (0 : Int) ≤ (k : Int) + 1 := by omega
   have k2 : ((k : Int) + 1).toNat = k + 1 := by omega
   have hw0 : IntKind.i64.wrap ((k : Int) + 1) = (k : Int) + 1 := IntWalk.i64_in _ (by omega)
   clear hcr hcv
   generalize lowF N xs (k + 1) = L at HC HT
   generalize gi rs k = R at *
   generalize gi vs (k + 1) = V at *
   generalize cstTo N xs c rs (fun j => gi vs j) k = C at HT ⊢
   obtain ⟨D, hD⟩ : ∃ D, IntKind.i64.wrap (V - L) = D := ⟨_, rfl⟩
   obtain ⟨M, hM⟩ : ∃ M, IntKind.i64.wrap (R * D) = M := ⟨_, rfl⟩
   obtain ⟨T, hT⟩ : ∃ T, IntKind.i64.wrap (C + M) = T := ⟨_, rfl⟩
   rw [hD, hM, hT] at HT
   have hD2 : wrap64 (V - L) = D := by rw [← hD, IntKind.wrap_i64]; unfold wrap64; omega
   have hM2 : wrap64 (R * D) = M := by rw [← hM, IntKind.wrap_i64]; unfold wrap64; omega
   have hT2 : wrap64 (C + M) = T := by rw [← hT, IntKind.wrap_i64]; unfold wrap64; omega
   go_upto_region 5 with fail
   go_region_held3 (fun w' => w'.cell? ⟨w.heap.size, 0, none⟩ = some (.int .i64 N) ∧ w'.cell? ⟨w.heap.size, 1, none⟩ = some (.slice ao xs.length cap) ∧ w'.cell? ⟨bv, ov + (k + 1), none⟩ = some (.int .i64 V))
    (first | exact ⟨by assumption, by assumption, by assumption⟩ | go_keep)
    (first
     | (go_at_call 59; refine (HC.out _ (below_grownBy (hloc.next (grownBy_drew wr none) (fun _ h => by cases h)).grown)).mono ?_; rintro e w2 ⟨rfl, hb2⟩; have q0 := keepb (show wr.drew.cell? _ = _ from z0) hb2; have q1 := keepb (show wr.drew.cell? _ = _ from z1) hb2; have q2 := keepb (show wr.drew.cell? _ = _ from v0) hb2))
   have hloc2 := hloc.next (grownBy_trans (grownBy_drew wr none) (grownBy_below hb2 none)) (fun _ h => by cases h)
   go_wp2_with fail
   go_roundw
   case rel => exact ⟨k + 1, by omega, by rw [HT.out], by go_num, hloc2⟩
   case measure => simp [intOf]; omega
  ·have htk : ¬ k < rs.length := by have := Hlr.out; omega
   obtain rfl : k = N := by omega
   go_wp2_with fail
   go_ret
   exact ⟨rfl, below_grownBy hloc.grown⟩
set_option maxRecDepth 100000 in
set_option maxHeartbeats 4000000 in
theorem ref_cost (N : Nat) (c : Int) (v rv vv : Value) (xs rs vs : List Int) (w : World) (hv : RL w.heap.size w v xs) (hr : RL w.heap.size w rv rs) (hvv : RL w.heap.size w vv vs) (hok : OkZ N xs) (hlr : rs.length = N) (hlv : vs.length = N) :
  Calls Tryz.prog 83 #[.agg #[.int .i64 N, v, .int .i64 c, rv], vv] w fun e w' => e = .returned (.int .i64 (cstTo N xs c rs (fun j => gi vs (j - 1)) N)) ∧ Below w.heap.size w w' := by
 have hN : N ≤ 10 := by have := hok.hi; omega
 obtain ⟨ao, cap, rfl, hle, _⟩ := hv.open
 obtain ⟨aor, capr, rfl, hler, h0r⟩ := hr.open
 obtain ⟨aov, capv, rfl, hlev, h0v⟩ := hvv.open
 have hloc := Loc.one w (.cells #[.int .i64 N, .slice ao xs.length cap, .int .i64 c, .slice aor rs.length capr] 35) none
 have Hv := Lib.hid hv
 have HOK := Lib.hid hok
 have H0r := Lib.hid h0r
 have H0v := Lib.hid h0v
 have Hlr := Lib.hid hlr
 have Hlv := Lib.hid hlv
 clear hv hr hvv hok h0r h0v hlr hlv
 go_enter Tryz.func83, Tryz.ntmps83
 go_wp2_with fail
 go_loopw [5, 6] (fun s5 i wr => ∃ k : Nat, k ≤ N ∧ s5 = .int .i64 (cstTo N xs c rs (fun j => gi vs (j - 1)) k) ∧ i = .int .i64 k ∧ Loc w wr none [.cells #[.int .i64 N, .slice ao xs.length cap, .int .i64 c, .slice aor rs.length capr] 35]) (fun _ i _ => N - (intOf i).toNat)
 case atStart => exact ⟨0, Nat.zero_le _, rfl, rfl, hloc⟩
 case round =>
  clear hloc
  obtain ⟨k, hk, rfl, rfl, hloc⟩ := hrel
  have z0 : wr.cell? ⟨w.heap.size, 0, none⟩ = some (.int .i64 N) := hloc.cell 0 rfl 0
  have z1 : wr.cell? ⟨w.heap.size, 1, none⟩ = some (.slice ao xs.length cap) := hloc.cell 0 rfl 1
  by_cases hlt : k < N
  ·have htk : k < vs.length := by have := Hlv.out; omega
   obtain ⟨br, or', rfl, hbr, hcr⟩ := H0r.out (by have := Hlr.out; omega)
   obtain ⟨bv, ov, rfl, hbv, hcv⟩ := H0v.out (by have := Hlv.out; omega)
   have z3 : wr.cell? ⟨w.heap.size, 3, none⟩ = some (.slice (some ⟨br, or', none⟩) rs.length capr) := hloc.cell 0 rfl 3
   have r0 := ((bcell (below_grownBy hloc.grown)).1 _ _ hbr).trans (hcr k (by have := Hlr.out; omega))
   have v0 := ((bcell (below_grownBy hloc.grown)).1 _ _ hbv).trans (hcv (k) (by have := Hlv.out; omega))
   have HC := Lib.hid (fun w' (hb : Below w.heap.size w w') => ref_low N _ ((k : Int) + 1) xs w' (Hv.out.keepb hb) HOK.out (by omega) (by omega))
   have HE := Lib.hid (show lowF N xs ((k : Int) + 1).toNat = lowF N xs (k + 1) by rw [show ((k : Int) + 1).toNat = k + 1 by omega])
   rw [HE.out] at HC
   have HT := Lib.hid (show cstTo N xs c rs (fun j => gi vs (j - 1)) (k + 1) = IntKind.i64.wrap (cstTo N xs c rs (fun j => gi vs (j - 1)) k + IntKind.i64.wrap (gi rs k * IntKind.i64.wrap (gi vs (k) - lowF N xs (k + 1)))) from rfl)
   have k0 : (k : Int) < rs.length := by have := Hlr.out; omega
   have k3 : (k : Int) < vs.length := by have := Hlv.out; omega
   have k1 : (0 : Int) ≤ (k : Int) := by omega
   have k4 : (0 : Int) ≤ (k : Int) + 1 := by omega
   have k2 : ((k : Int) + 1).toNat = k + 1 := by omega
   have hw0 : IntKind.i64.wrap ((k : Int) + 1) = (k : Int) + 1 := IntWalk.i64_in _ (by omega)
   clear hcr hcv
   generalize lowF N xs (k + 1) = L at HC HT
   generalize gi rs k = R at *
   generalize gi vs (k) = V at *
   generalize cstTo N xs c rs (fun j => gi vs (j - 1)) k = C at HT ⊢
   obtain ⟨D, hD⟩ : ∃ D, IntKind.i64.wrap (V - L) = D := ⟨_, rfl⟩
   obtain ⟨M, hM⟩ : ∃ M, IntKind.i64.wrap (R * D) = M := ⟨_, rfl⟩
   obtain ⟨T, hT⟩ : ∃ T, IntKind.i64.wrap (C + M) = T := ⟨_, rfl⟩
   rw [hD, hM, hT] at HT
   have hD2 : wrap64 (V - L) = D := by rw [← hD, IntKind.wrap_i64]; unfold wrap64; omega
   have hM2 : wrap64 (R * D) = M := by rw [← hM, IntKind.wrap_i64]; unfold wrap64; omega
   have hT2 : wrap64 (C + M) = T := by rw [← hT, IntKind.wrap_i64]; unfold wrap64; omega
   go_upto_region 5 with fail
   go_region_held3 (fun w' => w'.cell? ⟨w.heap.size, 0, none⟩ = some (.int .i64 N) ∧ w'.cell? ⟨w.heap.size, 1, none⟩ = some (.slice ao xs.length cap) ∧ w'.cell? ⟨bv, ov + k, none⟩ = some (.int .i64 V) ∧ w'.cell? ⟨w.heap.size, 3, none⟩ = some (.slice (some ⟨br, or', none⟩) rs.length capr) ∧ w'.cell? ⟨br, or' + k, none⟩ = some (.int .i64 R))
    (first | exact ⟨by assumption, by assumption, by assumption, by assumption, by assumption⟩ | go_keep)
    (first
     | (go_at_call 69; refine (HC.out _ (below_grownBy (hloc.next (grownBy_drew wr none) (fun _ h => by cases h)).grown)).mono ?_; rintro e w2 ⟨rfl, hb2⟩; have q0 := keepb (show wr.drew.cell? _ = _ from z0) hb2; have q1 := keepb (show wr.drew.cell? _ = _ from z1) hb2; have q2 := keepb (show wr.drew.cell? _ = _ from v0) hb2; have q3 := keepb (show wr.drew.cell? _ = _ from z3) hb2; have q4 := keepb (show wr.drew.cell? _ = _ from r0) hb2))
   have hloc2 := hloc.next (grownBy_trans (grownBy_drew wr none) (grownBy_below hb2 none)) (fun _ h => by cases h)
   go_wp2_with fail
   go_roundw
   case rel => exact ⟨k + 1, by omega, by rw [HT.out], by go_num, hloc2⟩
   case measure => simp [intOf]; omega
  ·have htk : ¬ k < vs.length := by have := Hlv.out; omega
   obtain rfl : k = N := by omega
   go_wp2_with fail
   go_ret
   exact ⟨rfl, below_grownBy hloc.grown⟩
set_option linter.unusedVariables false
set_option maxHeartbeats 1000000 in
theorem clone64 (v : Value) (xs : List Int) (w : World) (hv : RL w.heap.size w v xs) (hx : xs.length ≤ 1000) :
  Calls Tryz.prog 78 #[v] w fun e w' => LP 2 w.heap.size xs e w' ∧ Below w.heap.size w w' := by
 have heq : ∀ (W : World) (a : Option Addr) (n c : Nat), (binOp .eql 33 (.slice a n c) (.slice none 0 0)).run Tryz.prog W = .ok (.bool a.isNone) W := fun W a n c => Lib.run_eql_slice_nil W 33 2 a n c 0 0 Tryz.undL64
 rcases hv.head with ⟨rfl, h1, h2⟩ | ⟨ad, cap, rfl, _⟩
 ·obtain rfl : xs = [] := List.eq_nil_of_length_eq_zero h1
  clear hv h1 h2 hx
  go_enter Tryz.func78, Tryz.ntmps78
  go_wp2_with fail
  go_ret
  exact ⟨⟨_, rfl, OL.nil _ _ _⟩, Below.refl _ _⟩
 ·obtain ⟨i0, hi, hz0, hz1, hz2⟩ := info_parts Tryz.infL64
  have Hv := Lib.hid (show RL w.heap.size (w.alloc (.cells #[] 2)) (.slice (some ad) xs.length cap) xs from RS.keep hv ((Below.refl _ _).alloc (Nat.le_refl _) _))
  have Ho : Hid ((w.alloc (.cells #[] 2)).ownsRow w.heap.size 2 1 (.slice (some ⟨w.heap.size, 0, none⟩) 0 0) 0 []) := Lib.hid (owns_empty (heap_alloc_new w _) (Nat.le_refl _))
  have Hm := Lib.hid (show 0 + xs.length ≤ maxLen by unfold maxLen; omega)
  have Hby := Lib.hid (show (0 + xs.length) * 8 ≤ 140737488355328 by omega)
  have Hba := Lib.hid (show w.heap.size ≤ (w.alloc (.cells #[] 2)).heap.size by simp)
  have Hl := Lib.hid (show (xs.map (Value.int .i64)).length = xs.length * 1 by simp)
  have Hi := Lib.hid hi
  have Hz0 := Lib.hid hz0
  have Hz1 := Lib.hid hz1
  have Hz2 := Lib.hid hz2
  clear hv hi hz0 hz1 hz2 hx
  go_enter Tryz.func78, Tryz.ntmps78
  go_wp2_with (at_builtin; (refine wpList_append_rs (v := .slice (some ⟨w.heap.size, 0, none⟩) 0 0) (n := 0) (xs := []) (xv := .slice (some ad) xs.length cap) (m := xs.length) (news := xs.map (Value.int .i64)) ?_ (.tmp 5) (.tmp 6) 33 ?_ w.heap.size 2 i0 (.int .i64 0) 1 8 Tryz.undL64 Hi.out Hz0.out Hz1.out Hz2.out ?_ ?_ ?_ ?_ w.heap.size ?_ ?_ ?_ ?_ ?_ ?_ ?_ ?_; rfl; rfl; rfl; decide; rfl; exact Ho.out; rfl; exact Hv.out; exact Hl.out; exact ints_oneCell' _; exact Hm.out; exact Hby.out; exact Hba.out; intro v' w1 hown1 hg1; obtain ⟨ao1, cap1, rfl⟩ := owns_form hown1))
  go_ret
  have hn : 0 + xs.length = xs.length := Nat.zero_add _
  rw [hn] at hown1
  simp only [List.nil_append] at hown1
  exact ⟨⟨_, rfl, hown1⟩, (Loc.one w (.cells #[] 2) none).below0 hg1⟩
structure Pv where
 n : Int
 xs : List Int
 c : Int
 rs : List Int
def pv0 : Pv := ⟨0, [], 0, []⟩
def PE (zv : Value) (base : Nat) (r : Pv × Int) (e : Ending) (w' : World) : Prop := ∃ rv, e = .returned (.tuple #[.agg #[.int .i64 r.1.n, if r.2 = 0 then zv else .slice none 0 0, .int .i64 r.1.c, rv], .int .i64 r.2]) ∧ OL 2 base w' rv r.1.rs
def resF (n : Int) (xs : List Int) (c : Int) (rs : List Int) : Pv × Int := if rngB xs c rs = true then (⟨n, xs, c, rs⟩, 0) else (pv0, 7)
theorem RL.nil (B : Nat) (w : World) : RL B w (.slice none 0 0) [] := .inl ⟨rfl, rfl, rfl⟩
theorem PE.ok {zv : Value} {base : Nat} {r : Pv × Int} {n c : Int} {xs rs : List Int} {rv : Value} {w' : World} (h : r = (⟨n, xs, c, rs⟩, 0)) (h2 : OL 2 base w' rv rs) :
  PE zv base r (.returned (.tuple #[.agg #[.int .i64 n, zv, .int .i64 c, rv], .int .i64 0])) w' := by
 subst h; exact ⟨rv, rfl, h2⟩
def RP (b : Bool) (u : Value) (e : Ending) : Prop := e = .returned (.tuple #[if b = true then u else .agg #[.int .i64 0, .slice none 0 0, .int .i64 0, .slice none 0 0], .int .i64 (if b = true then 0 else 7)])
theorem RP.yes {b : Bool} {u : Value} (h : b = true) : RP b u (.returned (.tuple #[u, .int .i64 0])) := by subst h; rfl
theorem RP.no {b : Bool} {u : Value} (h : b = false) : RP b u (.returned (.tuple #[.agg #[.int .i64 0, .slice none 0 0, .int .i64 0, .slice none 0 0], .int .i64 7])) := by subst h; rfl
def BadTo (xs : List Int) (c : Int) (rs : List Int) (k : Nat) (b : Bool) : Prop := b = false ↔ (cstB c = true ∧ xs.all frB = true ∧ YesTo cdI64 slB rs k)
theorem BadTo.next {xs : List Int} {c : Int} {rs : List Int} {k : Nat} (h : BadTo xs c rs k false) : BadTo xs c rs (k + 1) (!slB (ge cdI64 rs k)) := by
 obtain ⟨a, b, d⟩ := h.1 rfl
 constructor
 ·intro h2
  exact ⟨a, b, d.succ (by simpa using h2)⟩
 ·rintro ⟨_, _, h3⟩
  have := h3 k (by omega)
  rw [this]; rfl
set_option linter.unusedVariables false
def at1 (s x : Int × Int) (l r : Int) : (Int × Int) × Int :=
 if (mkR l 1).2 = 0 then
  if (sbR x.1 x.2 (mkR l 1).1.1 (mkR l 1).1.2).2 = 0 then
   if (mkR r 1).2 = 0 then
    if (mulR (mkR r 1).1.1 (mkR r 1).1.2 (sbR x.1 x.2 (mkR l 1).1.1 (mkR l 1).1.2).1.1 (sbR x.1 x.2 (mkR l 1).1.1 (mkR l 1).1.2).1.2).2 = 0 then
     addR s.1 s.2 (mulR (mkR r 1).1.1 (mkR r 1).1.2 (sbR x.1 x.2 (mkR l 1).1.1 (mkR l 1).1.2).1.1 (sbR x.1 x.2 (mkR l 1).1.1 (mkR l 1).1.2).1.2).1.1 (mulR (mkR r 1).1.1 (mkR r 1).1.2 (sbR x.1 x.2 (mkR l 1).1.1 (mkR l 1).1.2).1.1 (sbR x.1 x.2 (mkR l 1).1.1 (mkR l 1).1.2).1.2).1.2
    else (s, (mulR (mkR r 1).1.1 (mkR r 1).1.2 (sbR x.1 x.2 (mkR l 1).1.1 (mkR l 1).1.2).1.1 (sbR x.1 x.2 (mkR l 1).1.1 (mkR l 1).1.2).1.2).2)
   else (s, (mkR r 1).2)
  else (s, (sbR x.1 x.2 (mkR l 1).1.1 (mkR l 1).1.2).2)
 else (s, (mkR l 1).2)
theorem at1_ok {s x f m q y : Int × Int} {l r : Int} (h : mkR l 1 = (f, 0)) (h2 : sbR x.1 x.2 f.1 f.2 = (m, 0)) (h3 : mkR r 1 = (q, 0)) (h4 : mulR q.1 q.2 m.1 m.2 = (y, 0)) : at1 s x l r = addR s.1 s.2 y.1 y.2 := by
 unfold at1; rw [h, if_pos rfl, h2, if_pos rfl, h3, if_pos rfl, h4, if_pos rfl]
def atTo (N : Nat) (xs : List Int) (c : Int) (rs : List Int) (ps : List (Int × Int)) : Nat → (Int × Int) × Int
 | 0 => mkR c 1
 | k + 1 => if (atTo N xs c rs ps k).2 = 0 then at1 (atTo N xs c rs ps k).1 (ge cdRes ps k) (lowF N xs (k + 1)) (gi rs k) else atTo N xs c rs ps k
theorem atTo_next {N : Nat} {xs : List Int} {c : Int} {rs : List Int} {ps : List (Int × Int)} {k : Nat} {s : Int × Int} (h : atTo N xs c rs ps k = (s, 0)) : atTo N xs c rs ps (k + 1) = at1 s (ge cdRes ps k) (lowF N xs (k + 1)) (gi rs k) := by
 show (if (atTo N xs c rs ps k).2 = 0 then _ else _) = _
 rw [h, if_pos rfl]
noncomputable def patF (n : Int) (xs : List Int) (c : Int) (rs : List Int) (ps : List (Int × Int)) : (Int × Int) × Int :=
 if pzB n xs c rs = true ∧ (ps.length : Int) = n ∧ ps.all (fun x => vr x.1 x.2) = true then
  (if (atTo n.toNat xs c rs ps ps.length).2 = 0 then atTo n.toNat xs c rs ps ps.length else ((0, 0), (atTo n.toNat xs c rs ps ps.length).2))
 else ((0, 0), 2)
theorem patF_ok {n c : Int} {xs rs : List Int} {ps : List (Int × Int)} {s : Int × Int} (h : pzB n xs c rs = true ∧ (ps.length : Int) = n ∧ ps.all (fun x => vr x.1 x.2) = true) (h2 : atTo n.toNat xs c rs ps ps.length = (s, 0)) : patF n xs c rs ps = (s, 0) := by
 unfold patF
 rw [if_pos h, h2, if_pos rfl]
end Go.Proofs.YtfphlpglgcmljaaGreat
