/- Part of the proof of priced_covers_proved: Zprog. -/
import Derived.Deep.RegionHeld3
import Derived.Test.YtfphlpglgcmljaaGreatXvRat
namespace Go.Proofs.YtfphlpglgcmljaaGreat
open Go.RowKit
set_option maxHeartbeats 1000000 in
theorem prog_dimension (n : Int) (v : Value) (xs : List Int) (w : World) (hv : RL w.heap.size w v xs) :
  Calls Tryz.prog 156 #[.int .i64 n, v] w fun e w' => e = .returned (.bool (dimF n xs)) ∧ w = w' := by
 obtain ⟨ao, cap, rfl, hle, h0⟩ := hv.open
 clear hv
 by_cases hn : n < 0 ∨ 10 < n
 ·have hres := Lib.hid (show dimF n xs = false by unfold dimF; simp; omega)
  clear h0
  rcases hn with hn | hn
  ·go_enter Tryz.func156, Tryz.ntmps156
   go_wp2_with fail
   go_ret
   exact ⟨ret_bool hres.out.symm, rfl⟩
  ·have hn' : ¬ n < 0 := by omega
   go_enter Tryz.func156, Tryz.ntmps156
   go_wp2_with fail
   go_ret
   exact ⟨ret_bool hres.out.symm, rfl⟩
 ·obtain ⟨N, rfl⟩ := Int.eq_ofNat_of_zero_le (show 0 ≤ n by omega)
  have hN : N ≤ 10 := by omega
  clear hn
  have hsq := sq_bd N hN
  by_cases hx : xs.length = (N + 1) * (N + 1)
  ·have Hx := Lib.hid hx
   have hll : ((xs.length : Int) != ((N : Int) + 1) * ((N : Int) + 1)) = false := by rw [← sq_nat, hx]; simp
   clear hx
   go_enter Tryz.func156, Tryz.ntmps156
   go_wp2_with fail
   go_loop [6, 25] (fun _ i => ∃ q : Nat, q ≤ xs.length ∧ i = .int .i64 q ∧ (xs.take q).all vld = true) (fun _ i => xs.length - (intOf i).toNat)
   case atStart => exact ⟨0, by omega, rfl, rfl⟩
   case round =>
    obtain ⟨j, hj, rfl, hval⟩ := hrel
    have Hval := Lib.hid hval
    clear hval
    by_cases hlt : j < xs.length
    ·obtain ⟨b, off, rfl, hb, hc⟩ := h0 (by omega)
     have hcj := hc j hlt
     clear hc h0
     by_cases hv1 : vld (gi xs j) = true
     ·go_wp2_with (go_at_call 132; refine (prog_valid _ _).mono ?_; rintro e w1 ⟨rfl, rfl⟩)
      go_round
      case rel => exact ⟨j + 1, by omega, by go_num, all_take_succ Hval.out hlt hv1⟩
      case measure => simp [intOf]; omega
     ·have hv2 : vld (gi xs j) = false := by simpa using hv1
      clear hv1
      have hres := Lib.hid (show dimF N xs = false by unfold dimF; simp only [decide_eq_false_iff_not]; exact fun h => not_all_of hlt hv2 h.2.2.2)
      go_wp2_with (go_at_call 132; refine (prog_valid _ _).mono ?_; rintro e w1 ⟨rfl, rfl⟩)
      go_ret
      exact ⟨ret_bool hres.out.symm, rfl⟩
    ·have hdj : decide ((j : Int) < (xs.length : Int)) = false := by simp; omega
     have hres := Lib.hid (show dimF N xs = true by
      unfold dimF; simp only [decide_eq_true_eq]
      exact ⟨by omega, by omega, by rw [Int.toNat_natCast]; exact Hx.out, by have := Hval.out; rwa [List.take_of_length_le (by omega)] at this⟩)
     go_wp2_with fail
     go_ret
     exact ⟨ret_bool hres.out.symm, rfl⟩
  ·have hll : ((xs.length : Int) != ((N : Int) + 1) * ((N : Int) + 1)) = true := bne_iff_ne.2 (fun h => hx (by rw [← sq_nat] at h; exact Int.ofNat_inj.1 h))
   have hres := Lib.hid (show dimF N xs = false by unfold dimF; simp only [decide_eq_false_iff_not]; exact fun h => hx (by have := h.2.2.1; rwa [Int.toNat_natCast] at this))
   clear hx h0
   go_enter Tryz.func156, Tryz.ntmps156
   go_wp2_with fail
   go_ret
   exact ⟨ret_bool hres.out.symm, rfl⟩
set_option maxHeartbeats 1000000 in
theorem prog_check_no (n : Int) (v : Value) (xs : List Int) (w : World) (hv : RL w.heap.size w v xs) (hd : dimF n xs = false) :
  Calls Tryz.prog 105 #[.agg #[.int .i64 n, v]] w fun e w' => e = .returned (.int .i64 2) ∧ Below w.heap.size w w' := by
 have Hd := Lib.hid hd
 clear hd
 obtain ⟨ao, cap, rfl, _⟩ := hv.open
 have hw : RL (w.alloc (.cells #[.int .i64 n, .slice ao xs.length cap] 32)).heap.size (w.alloc (.cells #[.int .i64 n, .slice ao xs.length cap] 32)) (.slice ao xs.length cap) xs := hv.keepb ((Below.refl _ _).alloc (Nat.le_refl _) _)
 have Hw := Lib.hid hw
 clear hw hv
 go_enter Tryz.func105, Tryz.ntmps105
 go_wp2_with (go_at_call 156; refine (prog_dimension _ _ _ _ Hw.out).mono ?_; rw [Hd.out]; rintro e w1 ⟨rfl, rfl⟩)
 go_ret
 exact ⟨rfl, (Below.refl _ _).alloc (Nat.le_refl _) _⟩
set_option maxHeartbeats 2000000 in
theorem prog_check_in (N : Nat) (v : Value) (xs : List Int) (w : World) (hv : RL w.heap.size w v xs) (hd : dimF N xs = true) :
  Calls Tryz.prog 105 #[.agg #[.int .i64 N, v]] w fun e w' => e = .returned (.int .i64 (okErr N xs)) ∧ Below w.heap.size w w' := by
 have Hd := Lib.hid hd
 obtain ⟨hN, hx, hall⟩ := dimF_nat hd
 have Hx := Lib.hid hx
 have Hall := Lib.hid hall
 clear hd hx hall
 obtain ⟨ao, cap, rfl, hle, h0⟩ := hv.open
 obtain ⟨b, off, rfl, hb, hc⟩ := h0 (by rw [Hx.out]; exact Nat.mul_pos (by omega) (by omega))
 have Hc := Lib.hid hc
 have hw : RL (w.alloc (.cells #[.int .i64 N, (.slice (some ⟨b, off, none⟩) xs.length cap)] 32)).heap.size (w.alloc (.cells #[.int .i64 N, (.slice (some ⟨b, off, none⟩) xs.length cap)] 32)) (.slice (some ⟨b, off, none⟩) xs.length cap) xs := hv.keepb ((Below.refl _ _).alloc (Nat.le_refl _) _)
 have Hw := Lib.hid hw
 clear hw hv h0 hc
 go_enter Tryz.func105, Tryz.ntmps105
 go_wp2_with (go_at_call 156; refine (prog_dimension _ _ _ _ Hw.out).mono ?_; rw [Hd.out]; rintro e w1 ⟨rfl, rfl⟩)
 go_loopw [18] (fun i wr => ∃ q : Nat, q ≤ N + 1 ∧ i = .int .i64 q ∧ PTo N xs q ∧ Loc w wr none [.cells #[.int .i64 N, .slice (some ⟨b, off, none⟩) xs.length cap] 32]) (fun i _ => N + 1 - (intOf i).toNat)
 case atStart => exact ⟨0, by omega, rfl, fun _ h => absurd h (by omega), Loc.one _ _ _⟩
 case round =>
  obtain ⟨i, hi, rfl, h1, hloc⟩ := hrel
  have H1 := Lib.hid h1
  clear h1
  have c0 : wr.cell? ⟨w.heap.size, 0, none⟩ = some (.int .i64 N) := hloc.cell 0 rfl 0
  have c1 : wr.cell? ⟨w.heap.size, 1, none⟩ = some (.slice (some ⟨b, off, none⟩) xs.length cap) := hloc.cell 0 rfl 1
  have hcell : ∀ k, k < xs.length → wr.cell? ⟨b, off + k, none⟩ = some (.int .i64 (gi xs k)) := fun k hk => ((bcell (below_grownBy hloc.grown)).1 _ _ hb).trans (Hc.out k hk)
  have Hcell := Lib.hid hcell
  clear hcell
  by_cases hlt : i < N + 1
  ·have hti : decide ((i : Int) < (N : Int) + 1) = true := by simp; omega
   have bii := idx_bd N i hN (by omega)
   have nii := idx_nat N i i
   have lii : (i : Int) * ((N : Int) + 1) + (i : Int) < xs.length := by
    have e1 := idx_lt N i i (by omega) (by omega)
    have e2 : ((i * (N + 1) + i : Nat) : Int) = (i : Int) * ((N : Int) + 1) + i := by push_cast; rfl
    rw [← Hx.out] at e1; omega
   have xii := Hcell.out (i * (N + 1) + i) (by rw [Hx.out]; exact idx_lt N i i (by omega) (by omega))
   have x0 := Hcell.out i (by rw [Hx.out]; have := idx_lt N 0 i (by omega) (by omega); omega)
   have l0 : (i : Int) < xs.length := by have := idx_lt N 0 i (by omega) (by omega); rw [← Hx.out] at this; omega
   by_cases a1 : gi xs (i * (N + 1) + i) = 1
   ·have a1' : (gi xs (i * (N + 1) + i) != 1) = false := by simpa using a1
    by_cases a2 : gi xs i ≤ 1
    ·have A1 := Lib.hid a1
     clear a1
     go_wp2_with fail
     go_loopw [40] (fun k wr => ∃ q : Nat, q ≤ N + 1 ∧ k = .int .i64 q ∧ PK N xs i q ∧ Loc w wr none [.cells #[.int .i64 N, .slice (some ⟨b, off, none⟩) xs.length cap] 32]) (fun k _ => N + 1 - (intOf k).toNat)
     case atStart => exact ⟨0, by omega, rfl, fun _ _ h => absurd h (by omega), hloc⟩
     case round =>
      clear hloc c0 c1 Hcell xii x0
      obtain ⟨k, hk, rfl, h2, hloc⟩ := hrel
      have H2 := Lib.hid h2
      clear h2
      have c0 : wr.cell? ⟨w.heap.size, 0, none⟩ = some (.int .i64 N) := hloc.cell 0 rfl 0
      have c1 : wr.cell? ⟨w.heap.size, 1, none⟩ = some (.slice (some ⟨b, off, none⟩) xs.length cap) := hloc.cell 0 rfl 1
      have hcell : ∀ k, k < xs.length → wr.cell? ⟨b, off + k, none⟩ = some (.int .i64 (gi xs k)) := fun k hk => ((bcell (below_grownBy hloc.grown)).1 _ _ hb).trans (Hc.out k hk)
      have Hcell := Lib.hid hcell
      clear hcell
      by_cases hlt2 : k < N + 1
      ·have htk : decide ((k : Int) < (N : Int) + 1) = true := by simp; omega
       have bik := idx_bd N i hN (by omega)
       have nik := idx_nat N i k
       have lik : (i : Int) * ((N : Int) + 1) + (k : Int) < xs.length := by
        have e1 := idx_lt N i k (by omega) (by omega)
        have e2 : ((i * (N + 1) + k : Nat) : Int) = (i : Int) * ((N : Int) + 1) + k := by push_cast; rfl
        rw [← Hx.out] at e1; omega
       have xik := Hcell.out (i * (N + 1) + k) (by rw [Hx.out]; exact idx_lt N i k (by omega) (by omega))
       by_cases a3 : gi xs (i * (N + 1) + k) = 1099511627776
       ·have a3' : (gi xs (i * (N + 1) + k) == 1099511627776) = true := by simpa using a3
        have A3 := Lib.hid a3
        clear a3
        go_wp2_with fail
        go_roundw
        case rel => exact ⟨k + 1, by omega, by go_num, H2.out.skip Hx.out Hall.out (by omega) A3.out, hloc⟩
        case measure => simp [intOf]; omega
       ·have a3' : (gi xs (i * (N + 1) + k) == 1099511627776) = false := by simpa using a3
        have A3 := Lib.hid a3
        clear a3
        go_wp2_with fail
        go_loopw [55] (fun j wr => ∃ q : Nat, q ≤ N + 1 ∧ j = .int .i64 q ∧ PJ N xs i k q ∧ Loc w wr none [.cells #[.int .i64 N, .slice (some ⟨b, off, none⟩) xs.length cap] 32]) (fun j _ => N + 1 - (intOf j).toNat)
        case atStart => exact ⟨0, by omega, rfl, fun _ h => absurd h (by omega), hloc⟩
        case round =>
         clear hloc c0 c1 Hcell xik
         obtain ⟨j, hj, rfl, h3, hloc⟩ := hrel
         have H3 := Lib.hid h3
         clear h3
         have c0 : wr.cell? ⟨w.heap.size, 0, none⟩ = some (.int .i64 N) := hloc.cell 0 rfl 0
         have c1 : wr.cell? ⟨w.heap.size, 1, none⟩ = some (.slice (some ⟨b, off, none⟩) xs.length cap) := hloc.cell 0 rfl 1
         have hcell : ∀ k, k < xs.length → wr.cell? ⟨b, off + k, none⟩ = some (.int .i64 (gi xs k)) := fun k hk => ((bcell (below_grownBy hloc.grown)).1 _ _ hb).trans (Hc.out k hk)
         have Hcell := Lib.hid hcell
         clear hcell
         by_cases hlt3 : j < N + 1
         ·have htj : decide ((j : Int) < (N : Int) + 1) = true := by simp; omega
          have bij := idx_bd N i hN (by omega)
          have nij := idx_nat N i j
          have lij : (i : Int) * ((N : Int) + 1) + (j : Int) < xs.length := by
           have e1 := idx_lt N i j (by omega) (by omega)
           have e2 : ((i * (N + 1) + j : Nat) : Int) = (i : Int) * ((N : Int) + 1) + j := by push_cast; rfl
           rw [← Hx.out] at e1; omega
          have waij : IntKind.i64.wrap ((i : Int) * ((N : Int) + 1)) = (i : Int) * ((N : Int) + 1) := IntWalk.i64_in _ (by omega)
          have wbij : IntKind.i64.wrap ((i : Int) * ((N : Int) + 1) + (j : Int)) = (i : Int) * ((N : Int) + 1) + (j : Int) := IntWalk.i64_in _ (by omega)
          have wcij : (0 : Int) ≤ (i : Int) * ((N : Int) + 1) + (j : Int) := by omega
          have xij := Hcell.out (i * (N + 1) + j) (by rw [Hx.out]; exact idx_lt N i j (by omega) (by omega))
          have bkj := idx_bd N k hN (by omega)
          have nkj := idx_nat N k j
          have lkj : (k : Int) * ((N : Int) + 1) + (j : Int) < xs.length := by
           have e1 := idx_lt N k j (by omega) (by omega)
           have e2 : ((k * (N + 1) + j : Nat) : Int) = (k : Int) * ((N : Int) + 1) + j := by push_cast; rfl
           rw [← Hx.out] at e1; omega
          have wakj : IntKind.i64.wrap ((k : Int) * ((N : Int) + 1)) = (k : Int) * ((N : Int) + 1) := IntWalk.i64_in _ (by omega)
          have wbkj : IntKind.i64.wrap ((k : Int) * ((N : Int) + 1) + (j : Int)) = (k : Int) * ((N : Int) + 1) + (j : Int) := IntWalk.i64_in _ (by omega)
          have wckj : (0 : Int) ≤ (k : Int) * ((N : Int) + 1) + (j : Int) := by omega
          have xkj := Hcell.out (k * (N + 1) + j) (by rw [Hx.out]; exact idx_lt N k j (by omega) (by omega))
          go_wp2_with fail
          go_region_held3 (fun w' => w'.cell? ⟨w.heap.size, 0, none⟩ = some (.int .i64 N) ∧ w'.cell? ⟨w.heap.size, 1, none⟩ = some (.slice (some ⟨b, off, none⟩) xs.length cap) ∧ w'.cell? ⟨b, off + (i * (N + 1) + j), none⟩ = some (.int .i64 (gi xs (i * (N + 1) + j))) ∧ w'.cell? ⟨b, off + (k * (N + 1) + j), none⟩ = some (.int .i64 (gi xs (k * (N + 1) + j))))
           (first | exact ⟨by assumption, by assumption, by assumption, by assumption⟩ | exact ⟨c0, c1, xij, xkj⟩)
           (first
            | (go_at_call 157; refine (prog_sum _ _ _).mono ?_; rintro e w9 ⟨rfl, rfl⟩))
          have hloc1 := hloc.next (grownBy_drew _ _) (fun _ h => by cases h)
          by_cases hT : Tr N xs i j k
          ·have ht : gi xs (i * (N + 1) + j) ≤ lsum (gi xs (i * (N + 1) + k)) (gi xs (k * (N + 1) + j)) := hT
           have HT := Lib.hid hT
           clear hT
           go_wp2_with fail
           go_roundw
           case rel => exact ⟨j + 1, by omega, by go_num, H3.out.succ HT.out, hloc1⟩
           case measure => simp [intOf]; omega
          ·have ht : lsum (gi xs (i * (N + 1) + k)) (gi xs (k * (N + 1) + j)) < gi xs (i * (N + 1) + j) := by unfold Tr at hT; omega
           have HT := Lib.hid hT
           clear hT
           go_wp2_with fail
           go_ret
           exact ⟨ret_int (okErr_no (fun h => HT.out (El.gt h (by omega) (by omega) (by omega)))).symm, below_grownBy hloc1.grown⟩
         ·have hdj : decide ((j : Int) < (N : Int) + 1) = false := by simp; omega
          have HQj := Lib.hid (show j = N + 1 by omega)
          go_wp2_with fail
          go_roundw
          case rel => exact ⟨k + 1, by omega, by go_num, H2.out.succ (by rw [← HQj.out]; exact H3.out), hloc⟩
          case measure => simp [intOf]; omega
      ·have hdk : decide ((k : Int) < (N : Int) + 1) = false := by simp; omega
       have HQk := Lib.hid (show k = N + 1 by omega)
       go_wp2_with fail
       go_roundw
       case rel => exact ⟨i + 1, by omega, by go_num, H1.out.succ A1.out a2 (by rw [← HQk.out]; exact H2.out), hloc⟩
       case measure => simp [intOf]; omega
    ·have a2' : 1 < gi xs i := by omega
     have hbad := Lib.hid (show ¬ OkZ N xs from fun h => a2 (h.rowN (by omega)))
     clear a2 a1
     go_wp2_with fail
     go_ret
     exact ⟨ret_int (okErr_no hbad.out).symm, below_grownBy hloc.grown⟩
   ·have a1' : (gi xs (i * (N + 1) + i) != 1) = true := by simpa using a1
    have hbad := Lib.hid (show ¬ OkZ N xs from fun h => a1 (h.diagN (by omega)))
    clear a1
    go_wp2_with fail
    go_ret
    exact ⟨ret_int (okErr_no hbad.out).symm, below_grownBy hloc.grown⟩
  ·have hdi : decide ((i : Int) < (N : Int) + 1) = false := by simp; omega
   have HQi := Lib.hid (show i = N + 1 by omega)
   go_wp2_with fail
   go_ret
   exact ⟨ret_int (okErr_yes (OkZ.of_prog hN Hx.out Hall.out (by rw [← HQi.out]; exact H1.out))).symm, below_grownBy hloc.grown⟩
theorem prog_check (n : Int) (v : Value) (xs : List Int) (w : World) (hv : RL w.heap.size w v xs) :
  Calls Tryz.prog 105 #[.agg #[.int .i64 n, v]] w fun e w' => e = .returned (.int .i64 (okErr n xs)) ∧ Below w.heap.size w w' := by
 by_cases hd : dimF n xs = true
 ·have : 0 ≤ n := by unfold dimF at hd; simp only [decide_eq_true_eq] at hd; exact hd.1
  obtain ⟨N, rfl⟩ := Int.eq_ofNat_of_zero_le this
  exact prog_check_in N v xs w hv hd
 ·rw [okErr_no (fun h => hd (OkZ.dim h))]
  exact prog_check_no n v xs w hv (by simpa using hd)
end Go.Proofs.YtfphlpglgcmljaaGreat
