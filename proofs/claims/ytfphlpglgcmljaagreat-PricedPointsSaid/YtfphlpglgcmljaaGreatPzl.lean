/- bound, low, weak, corner and cost, of both sides. -/
import Derived.Test.YtfphlpglgcmljaaGreatPzc
import Derived.Test.YtfphlpglgcmljaaGreatCan
import Derived.Test.YtfphlpglgcmljaaGreatQ
import Derived.Test.YtfphlpglgcmljaaGreatBox
namespace Go.Proofs.YtfphlpglgcmljaaGreat
open Go.RowKit
set_option linter.unusedVariables false

/-- The lower bound of a clock. -/
def lowF (N : Nat) (xs : List Int) (i : Nat) : Int := -(ent N xs 0 i / 2)
theorem ent_bd {N : Nat} {xs : List Int} (h : OkZ N xs) {i j : Nat} (hi : i ≤ N) (hj : j ≤ N) : -2147483648 ≤ ent N xs i j ∧ ent N xs i j ≤ 1099511627776 := by
  have := (h.el hi hj).val
  rw [vld_iff] at this
  unfold ent
  omega
def crTo (N : Nat) (xs : List Int) (k : Nat) : List Int := (List.range (N + 1)).map fun j => if 1 ≤ j ∧ j ≤ k then lowF N xs j else 0
theorem crTo_len (N : Nat) (xs : List Int) (k : Nat) : (crTo N xs k).length = N + 1 := by simp [crTo]
theorem crTo_at {N : Nat} {xs : List Int} {k j : Nat} (hj : j ≤ N) : gi (crTo N xs k) j = if 1 ≤ j ∧ j ≤ k then lowF N xs j else 0 := by
  unfold gi crTo
  rw [List.getD_eq_getElem?_getD, List.getElem?_map, List.getElem?_range (by omega)]
  rfl
theorem crTo_succ {N : Nat} {xs : List Int} {k : Nat} (hk : k < N) : crTo N xs (k + 1) = (crTo N xs k).set (k + 1) (lowF N xs (k + 1)) := by
  refine ext_gi (by rw [List.length_set, crTo_len, crTo_len]) (fun j hj => ?_)
  rw [crTo_len] at hj
  rw [crTo_at (by omega)]
  unfold gi
  rw [List.getD_eq_getElem?_getD, List.getElem?_set]
  by_cases e : k + 1 = j
  · subst e
    rw [if_pos (show 1 ≤ k + 1 ∧ k + 1 ≤ k + 1 by omega), if_pos rfl, if_pos (by rw [crTo_len]; omega)]
    rfl
  · rw [if_neg e, ← List.getD_eq_getElem?_getD]
    show _ = gi (crTo N xs k) j
    rw [crTo_at (by omega)]
    by_cases c : 1 ≤ j ∧ j ≤ k
    · rw [if_pos c, if_pos (by omega)]
    · rw [if_neg c, if_neg (by omega)]
theorem crTo_zero (N : Nat) (xs : List Int) : crTo N xs 0 = List.replicate (N + 1) 0 := by
  refine List.ext_getElem (by rw [crTo_len, List.length_replicate]) (fun j h1 h2 => ?_)
  rw [List.getElem_replicate]
  simp only [crTo, List.getElem_map, List.getElem_range]
  rw [if_neg (by omega)]
def crR (N : Nat) (xs : List Int) (k : Nat) : List Int := (List.range k).map fun j => lowF N xs (j + 1)
theorem crR_len (N : Nat) (xs : List Int) (k : Nat) : (crR N xs k).length = k := by simp [crR]
theorem crR_succ (N : Nat) (xs : List Int) (k : Nat) : crR N xs (k + 1) = crR N xs k ++ [lowF N xs (k + 1)] := by
  unfold crR; rw [List.range_succ, List.map_append]; rfl
theorem crR_at {N : Nat} {xs : List Int} {k j : Nat} (hj : j < k) : gi (crR N xs k) j = lowF N xs (j + 1) := by
  unfold gi crR
  rw [List.getD_eq_getElem?_getD, List.getElem?_map, List.getElem?_range hj]
  rfl
/-- The cost of the point v, up to clock k. -/
def cstTo (N : Nat) (xs : List Int) (c : Int) (rs : List Int) (v : Nat → Int) : Nat → Int
  | 0 => c
  | k + 1 => IntKind.i64.wrap (cstTo N xs c rs v k + IntKind.i64.wrap (gi rs k * IntKind.i64.wrap (v (k + 1) - lowF N xs (k + 1))))
theorem cstTo_congr {N : Nat} {xs : List Int} {c : Int} {rs : List Int} {v v' : Nat → Int} : ∀ k, (∀ j, 1 ≤ j → j ≤ k → v j = v' j) → cstTo N xs c rs v k = cstTo N xs c rs v' k
  | 0, _ => rfl
  | k + 1, h => by
    show IntKind.i64.wrap _ = IntKind.i64.wrap _
    rw [cstTo_congr k (fun j h1 h2 => h j h1 (by omega)), h (k + 1) (by omega) (Nat.le_refl _)]
set_option maxHeartbeats 1000000 in
theorem prog_bound (N : Nat) (v : Value) (i j : Int) (xs : List Int) (w : World) (hv : RL w.heap.size w v xs) (hok : OkZ N xs) (h1 : 0 ≤ i) (h2 : i ≤ N) (h3 : 0 ≤ j) (h4 : j ≤ N) :
    Calls Tryz.prog 63 #[.agg #[.int .i64 N, v], .int .i64 i, .int .i64 j] w fun e w' => e = .returned (.tuple #[.int .i64 (ent N xs i.toNat j.toNat / 2), .bool (decide (ent N xs i.toNat j.toNat ≠ 1099511627776))]) ∧ Below w.heap.size w w' := by
  have hN : N ≤ 10 := by have := hok.hi; omega
  have hx : xs.length = (N + 1) * (N + 1) := by have := hok.len; rwa [Int.toNat_natCast] at this
  obtain ⟨i, rfl⟩ := Int.eq_ofNat_of_zero_le h1
  obtain ⟨j, rfl⟩ := Int.eq_ofNat_of_zero_le h3
  have hi : i ≤ N := by omega
  have hj : j ≤ N := by omega
  obtain ⟨ao, cap, rfl, hle, h0⟩ := hv.open
  obtain ⟨b, off, rfl, hb, hc⟩ := h0 (by rw [hx]; exact Nat.mul_pos (by omega) (by omega))
  have hloc := Loc.one w (.cells #[.int .i64 N, .slice (some ⟨b, off, none⟩) xs.length cap] 32) none
  have hlt := idx_lt N i j hi hj
  have m1 := ((bcell (below_grownBy hloc.grown)).1 _ _ hb).trans (hc (i * (N + 1) + j) (by rw [hx]; exact hlt))
  have hE : gi xs (i * (N + 1) + j) = ent N xs i j := rfl
  rw [hE] at m1
  have hbd := idx_bd N i hN hi
  have hn := idx_nat N i j
  have hL : (i : Int) * ((N : Int) + 1) + (j : Int) < xs.length := by
    have e : ((i * (N + 1) + j : Nat) : Int) = (i : Int) * ((N : Int) + 1) + j := by push_cast; rfl
    rw [← hx] at hlt; omega
  have hz : (0 : Int) ≤ (i : Int) * ((N : Int) + 1) + (j : Int) := by omega
  have hw1 : IntKind.i64.wrap ((i : Int) * ((N : Int) + 1)) = (i : Int) * ((N : Int) + 1) := IntWalk.i64_in _ (by omega)
  have hw2 : IntKind.i64.wrap ((i : Int) * ((N : Int) + 1) + (j : Int)) = (i : Int) * ((N : Int) + 1) + (j : Int) := IntWalk.i64_in _ (by omega)
  rw [Int.toNat_natCast, Int.toNat_natCast]
  clear hv h0 hc hok hE h1 h2 h3 h4 hx hlt
  obtain ⟨E, hE⟩ : ∃ E, ent N xs i j = E := ⟨_, rfl⟩
  rw [hE] at m1 ⊢
  clear hE
  by_cases hn' : E = 1099511627776
  · have hnb : (E != 1099511627776) = false := by simpa using hn'
    have hd : decide (E ≠ 1099511627776) = false := by simpa using hn'
    rw [hd]
    clear hn' hd
    go_enter Tryz.func63, Tryz.ntmps63
    go_wp2_with fail
    go_ret2
    exact ⟨rfl, below_grownBy hloc.grown⟩
  · have hnb : (E != 1099511627776) = true := by simpa using hn'
    have hd : decide (E ≠ 1099511627776) = true := by simpa using hn'
    rw [hd]
    clear hn' hd
    go_enter Tryz.func63, Tryz.ntmps63
    go_wp2_with fail
    go_ret2
    exact ⟨rfl, below_grownBy hloc.grown⟩
set_option maxHeartbeats 1000000 in
theorem prog_low (N : Nat) (v : Value) (i : Int) (xs : List Int) (w : World) (hv : RL w.heap.size w v xs) (hok : OkZ N xs) (h1 : 0 ≤ i) (h2 : i ≤ N) :
    Calls Tryz.prog 59 #[.agg #[.int .i64 N, v], .int .i64 i] w fun e w' => e = .returned (.int .i64 (lowF N xs i.toNat)) ∧ Below w.heap.size w w' := by
  obtain ⟨ao, cap, rfl, hle, _⟩ := hv.open
  have hloc := Loc.one w (.cells #[.int .i64 N, .slice ao xs.length cap] 32) none
  have HC := Lib.hid (prog_bound N _ 0 i xs _ (hv.keepb (below_grownBy hloc.grown)) hok (by omega) (by omega) h1 h2)
  have hb := ent_bd hok (Nat.zero_le N) (show i.toNat ≤ N by omega)
  unfold lowF
  have e0 : (0 : Int).toNat = 0 := rfl
  rw [e0] at HC
  generalize ent N xs 0 i.toNat = E at *
  have hq : -1073741824 ≤ E / 2 ∧ E / 2 ≤ 549755813888 := by omega
  obtain ⟨q1, q2⟩ := hq
  generalize decide (E ≠ 1099511627776) = fl at HC
  generalize E / 2 = q at *
  clear hv hok h1 h2 hb e0
  go_enter Tryz.func59, Tryz.ntmps59
  go_wp2_with fail
  refine HC.out.mono ?_
  rintro e w1 ⟨rfl, hb1⟩
  go_wp2_with fail
  go_ret
  exact ⟨rfl, below_grownBy (hloc.next (grownBy_below hb1 none) (fun _ h => by cases h)).grown⟩
set_option maxHeartbeats 1000000 in
theorem prog_weak (i j c : Int) (w : World) (h1 : -4611686018427387904 < c) (h2 : c < 4611686018427387903) :
    Calls Tryz.prog 58 #[.int .i64 i, .int .i64 j, .int .i64 c] w fun e w' => e = .returned (.agg #[.int .i64 i, .int .i64 j, .int .i64 (2 * c + 1)]) ∧ Below w.heap.size w w' := by
  have hloc := Loc.one w (.cells #[.int .i64 0, .int .i64 0, .int .i64 0] 98) none
  have hb := below_grownBy hloc.grown
  go_enter Tryz.func58, Tryz.ntmps58
  go_wp2_with fail
  refine bodyPost_ret (v := .agg #[.int .i64 i, .int .i64 j, .int .i64 (2 * c + 1)]) (by simp [results, Tryz.results58, go_sem]) rfl ⟨rfl, ?_⟩
  (repeat' (first | exact hb | exact Below.refl _ _ | refine Below.setCell ?_ ?_ _ | refine Below.alloc ?_ ?_ _)) <;> (first | (simp; done) | (simp; omega))
set_option maxHeartbeats 1000000 in
theorem ref_bound (N : Nat) (v : Value) (i j : Int) (xs : List Int) (w : World) (hv : RL w.heap.size w v xs) (hok : OkZ N xs) (h1 : 0 ≤ i) (h2 : i ≤ N) (h3 : 0 ≤ j) (h4 : j ≤ N) :
    Calls Tryz.prog 68 #[.agg #[.int .i64 N, v], .int .i64 i, .int .i64 j] w fun e w' => e = .returned (.tuple #[.int .i64 (ent N xs i.toNat j.toNat / 2), .bool (decide (ent N xs i.toNat j.toNat ≠ 1099511627776))]) ∧ Below w.heap.size w w' := by
  have hN : N ≤ 10 := by have := hok.hi; omega
  have hx : xs.length = (N + 1) * (N + 1) := by have := hok.len; rwa [Int.toNat_natCast] at this
  obtain ⟨i, rfl⟩ := Int.eq_ofNat_of_zero_le h1
  obtain ⟨j, rfl⟩ := Int.eq_ofNat_of_zero_le h3
  have hi : i ≤ N := by omega
  have hj : j ≤ N := by omega
  obtain ⟨ao, cap, rfl, hle, h0⟩ := hv.open
  obtain ⟨b, off, rfl, hb, hc⟩ := h0 (by rw [hx]; exact Nat.mul_pos (by omega) (by omega))
  have hloc := Loc.one w (.cells #[.int .i64 N, .slice (some ⟨b, off, none⟩) xs.length cap] 32) none
  have hlt := idx_lt N i j hi hj
  have m1 := ((bcell (below_grownBy hloc.grown)).1 _ _ hb).trans (hc (i * (N + 1) + j) (by rw [hx]; exact hlt))
  have hE : gi xs (i * (N + 1) + j) = ent N xs i j := rfl
  rw [hE] at m1
  have hbd := idx_bd N i hN hi
  have hn := idx_nat N i j
  have hL : (i : Int) * ((N : Int) + 1) + (j : Int) < xs.length := by
    have e : ((i * (N + 1) + j : Nat) : Int) = (i : Int) * ((N : Int) + 1) + j := by push_cast; rfl
    rw [← hx] at hlt; omega
  have hz : (0 : Int) ≤ (i : Int) * ((N : Int) + 1) + (j : Int) := by omega
  have hw1 : IntKind.i64.wrap ((i : Int) * ((N : Int) + 1)) = (i : Int) * ((N : Int) + 1) := IntWalk.i64_in _ (by omega)
  have hw2 : IntKind.i64.wrap ((i : Int) * ((N : Int) + 1) + (j : Int)) = (i : Int) * ((N : Int) + 1) + (j : Int) := IntWalk.i64_in _ (by omega)
  rw [Int.toNat_natCast, Int.toNat_natCast]
  clear hv h0 hc hok hE h1 h2 h3 h4 hx hlt
  obtain ⟨E, hE⟩ : ∃ E, ent N xs i j = E := ⟨_, rfl⟩
  rw [hE] at m1 ⊢
  clear hE
  by_cases hn' : E = 1099511627776
  · have hnb : (E != 1099511627776) = false := by simpa using hn'
    have hd : decide (E ≠ 1099511627776) = false := by simpa using hn'
    rw [hd]
    clear hn' hd
    go_enter Tryz.func68, Tryz.ntmps68
    go_wp2_with fail
    go_ret2
    exact ⟨rfl, below_grownBy hloc.grown⟩
  · have hnb : (E != 1099511627776) = true := by simpa using hn'
    have hd : decide (E ≠ 1099511627776) = true := by simpa using hn'
    rw [hd]
    clear hn' hd
    go_enter Tryz.func68, Tryz.ntmps68
    go_wp2_with fail
    go_ret2
    exact ⟨rfl, below_grownBy hloc.grown⟩
set_option maxHeartbeats 1000000 in
theorem ref_low (N : Nat) (v : Value) (i : Int) (xs : List Int) (w : World) (hv : RL w.heap.size w v xs) (hok : OkZ N xs) (h1 : 0 ≤ i) (h2 : i ≤ N) :
    Calls Tryz.prog 69 #[.agg #[.int .i64 N, v], .int .i64 i] w fun e w' => e = .returned (.int .i64 (lowF N xs i.toNat)) ∧ Below w.heap.size w w' := by
  obtain ⟨ao, cap, rfl, hle, _⟩ := hv.open
  have hloc := Loc.one w (.cells #[.int .i64 N, .slice ao xs.length cap] 32) none
  have HC := Lib.hid (ref_bound N _ 0 i xs _ (hv.keepb (below_grownBy hloc.grown)) hok (by omega) (by omega) h1 h2)
  have hb := ent_bd hok (Nat.zero_le N) (show i.toNat ≤ N by omega)
  unfold lowF
  have e0 : (0 : Int).toNat = 0 := rfl
  rw [e0] at HC
  generalize ent N xs 0 i.toNat = E at *
  have hq : -1073741824 ≤ E / 2 ∧ E / 2 ≤ 549755813888 := by omega
  obtain ⟨q1, q2⟩ := hq
  generalize decide (E ≠ 1099511627776) = fl at HC
  generalize E / 2 = q at *
  clear hv hok h1 h2 hb e0
  go_enter Tryz.func69, Tryz.ntmps69
  go_wp2_with fail
  refine HC.out.mono ?_
  rintro e w1 ⟨rfl, hb1⟩
  go_wp2_with fail
  go_ret
  exact ⟨rfl, below_grownBy (hloc.next (grownBy_below hb1 none) (fun _ h => by cases h)).grown⟩
set_option maxHeartbeats 1000000 in
theorem ref_weak (i j c : Int) (w : World) (h1 : -4611686018427387904 < c) (h2 : c < 4611686018427387903) :
    Calls Tryz.prog 70 #[.int .i64 i, .int .i64 j, .int .i64 c] w fun e w' => e = .returned (.agg #[.int .i64 i, .int .i64 j, .int .i64 (2 * c + 1)]) ∧ Below w.heap.size w w' := by
  have hloc := Loc.one w (.cells #[.int .i64 0, .int .i64 0, .int .i64 0] 98) none
  have hb := below_grownBy hloc.grown
  go_enter Tryz.func70, Tryz.ntmps70
  go_wp2_with fail
  refine bodyPost_ret (v := .agg #[.int .i64 i, .int .i64 j, .int .i64 (2 * c + 1)]) (by simp [results, Tryz.results70, go_sem]) rfl ⟨rfl, ?_⟩
  (repeat' (first | exact hb | exact Below.refl _ _ | refine Below.setCell ?_ ?_ _ | refine Below.alloc ?_ ?_ _)) <;> (first | (simp; done) | (simp; omega))
end Go.Proofs.YtfphlpglgcmljaaGreat
