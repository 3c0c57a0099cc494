/- Part of the proof of priced_clears_proved: Has. -/
import Derived.Deep.RegionHeld3
import Derived.Test.YtfphlpglgcmljaaGreatXcQ
import Derived.Test.YtfphlpglgcmljaaGreatXcRat
import Derived.Test.YtfphlpglgcmljaaGreatXcInc
import Derived.Test.YtfphlpglgcmljaaGreatXcBox
namespace Go.Proofs.YtfphlpglgcmljaaGreat
open Go.RowKit
set_option linter.unusedVariables false
set_option maxHeartbeats 1000000 in
theorem ref_clock (v : Value) (ps : List (Int × Int)) (i : Nat) (w : World) (hv : RQ w.heap.size w v ps) (hi : i ≤ ps.length) :
  Calls Tryz.prog 87 #[v, .int .i64 (i : Int)] w fun e w' => e = .returned (.agg #[.int .i64 (ck ps i).1, .int .i64 (ck ps i).2]) ∧ Below w.heap.size w w' := by
 obtain ⟨ao, cap, rfl, hle, h0⟩ := hv.open
 rcases i with _ | i
 ·clear h0
  go_enter Tryz.func87, Tryz.ntmps87
  go_wp2_with fail
  refine bodyPost_ret (v := .agg #[.int .i64 0, .int .i64 1]) (by simp [results, Tryz.results87, go_sem]) rfl ⟨rfl, ?_⟩
  (repeat' (first | exact Below.refl _ _ | refine Below.setCell ?_ ?_ _ | refine Below.alloc ?_ ?_ _ | refine Below.drew ?_ | refine bdn ?_ _)) <;> (first | (simp; done) | (simp; omega))
 ·obtain ⟨b, off, rfl, hb, hc⟩ := h0 (by omega)
  obtain ⟨c1, c2⟩ := hc i (by omega)
  clear hc h0
  have e1 : (((i + 1 : Nat) : Int) == 0) = false := by simp; omega
  have e2 : ck ps (i + 1) = gq ps i := rfl
  have e3 : ((i + 1 : Nat) : Int) - 1 = (i : Int) := by omega
  generalize hK : (((i + 1 : Nat) : Int)) = K at *
  have l1 : (i : Int) < ps.length := by omega
  have l2 : 1 ≤ K := by omega
  have l3 : K ≤ 9223372036854775807 := by omega
  have HK := Lib.hid hK
  rw [e2]
  clear e2 hK
  go_enter Tryz.func87, Tryz.ntmps87
  go_wp2_with fail
  refine bodyPost_ret (v := .agg #[.int .i64 (gq ps i).1, .int .i64 (gq ps i).2]) (by simp [results, Tryz.results87, go_sem]) rfl ⟨rfl, ?_⟩
  (repeat' (first | exact Below.refl _ _ | refine Below.setCell ?_ ?_ _ | refine Below.alloc ?_ ?_ _ | refine Below.drew ?_ | refine bdn ?_ _)) <;> (first | (simp; done) | (simp; omega))
set_option maxRecDepth 100000 in
set_option maxHeartbeats 2000000 in
theorem ref_ready (n : Int) (zv v : Value) (xs : List Int) (ps : List (Int × Int)) (w : World) (hz : RL w.heap.size w zv xs) (hv : RQ w.heap.size w v ps) :
  Calls Tryz.prog 85 #[.agg #[.int .i64 n, zv], v] w fun e w' => e = .returned (.int .i64 (readyF n xs ps)) ∧ Below w.heap.size w w' := by
 obtain ⟨aoz, capz, rfl, hlez, _⟩ := hz.open
 obtain ⟨ao, cap, rfl, hle, h0⟩ := hv.open
 have hloc0 := Loc.one w (.cells #[.int .i64 n, .slice aoz xs.length capz] 32) none
 have Hz := Lib.hid (hz.keepb (below_grownBy hloc0.grown))
 have Hvw := Lib.hid hv
 have H0 := Lib.hid h0
 clear hz hv h0
 by_cases hok : OkZ n xs
 ·cases hln : ((ps.length : Int) != n)
  ·obtain rfl : (ps.length : Int) = n := by simpa using hln
   have Hfit := Lib.hid (show Fit ps.length xs ps from ⟨hok, rfl⟩)
   have hN : ps.length ≤ 10 := by have := hok.hi; omega
   have Hok := Lib.hid hok
   clear hln hok
   go_enter Tryz.func85, Tryz.ntmps85
   go_wp2_with fail
   refine (ref_check_ok _ _ xs _ Hz.out Hok.out).mono ?_
   rintro e wa ⟨rfl, hba⟩
   have hloca := hloc0.next (grownBy_below hba none) (fun _ h => by cases h)
   have c0 : wa.cell? ⟨w.heap.size, 0, none⟩ = some (.int .i64 ps.length) := hloca.cell 0 rfl 0
   clear hba hloc0
   go_wp2_with fail
   go_loopw [5] (fun i wr => ∃ q : Nat, q ≤ ps.length ∧ i = .int .i64 q ∧ AllP ps q ∧ Loc w wr none [.cells #[.int .i64 ps.length, .slice aoz xs.length capz] 32]) (fun i _ => ps.length - (intOf i).toNat)
   case atStart => exact ⟨0, by omega, rfl, fun _ h => by omega, hloca⟩
   case round =>
    clear hloca c0
    obtain ⟨q, hq, rfl, hall, hloc⟩ := hrel
    have Hall := Lib.hid hall
    clear hall
    by_cases hlt : q < ps.length
    ·obtain ⟨b, off, rfl, hb, hc⟩ := H0.out (by omega)
     obtain ⟨x1, x2⟩ := hc q hlt
     have y1 := ((bcell (below_grownBy hloc.grown)).1 _ _ hb).trans x1
     have y2 := ((bcell (below_grownBy hloc.grown)).1 _ _ hb).trans x2
     have y3 : (q : Int) < ps.length := by omega
     clear hc x1 x2
     cases hvr : vr (gq ps q).1 (gq ps q).2
     ·have hres := Lib.hid (readyF_val (n := (ps.length : Int)) (xs := xs) (ps := ps) (fun h => by have := h q hlt; unfold okP at this; rw [hvr] at this; simp at this))
      go_wp2_with (go_at_call 91; refine (r1_valid_no _ _ _ hvr).mono ?_; rintro e w1 ⟨rfl, hb1⟩)
      go_ret
      exact ⟨ret_int hres.out.symm, bt (below_grownBy hloc.grown) hb1⟩
     ·by_cases hneg : (gq ps q).1 < 0
      ·have hres := Lib.hid (readyF_val (n := (ps.length : Int)) (xs := xs) (ps := ps) (fun h => by have := h q hlt; unfold okP at this; rw [hvr] at this; simp at this; omega))
       go_wp2_with (go_at_call 91; refine (r1_valid_yes _ _ _ hvr).mono ?_; rintro e w1 ⟨rfl, hb1⟩; have z1 := keepb y1 hb1)
       go_ret
       exact ⟨ret_int hres.out.symm, bt (below_grownBy hloc.grown) hb1⟩
      ·have hst := Lib.hid (Hall.out.succ (by unfold okP; rw [hvr]; simp; omega))
       have hneg' : decide ((gq ps q).1 < 0) = false := by simpa using hneg
       go_wp2_with (go_at_call 91; refine (r1_valid_yes _ _ _ hvr).mono ?_; rintro e w1 ⟨rfl, hb1⟩; have z1 := keepb y1 hb1)
       go_roundw
       case rel => exact ⟨q + 1, by omega, by go_num, hst.out, hloc.next (grownBy_below hb1 none) (fun _ h => by cases h)⟩
       case measure => simp [intOf]; omega
    ·have hd : decide ((q : Int) < (ps.length : Int)) = false := by simp; omega
     have HallP := Lib.hid (show AllP ps ps.length from fun k hk => Hall.out k (by omega))
     go_wp2_with fail
     go_loopw [6, 7, 8, 9] (fun i _ _ _ wr => ∃ q : Nat, q ≤ ps.length + 1 ∧ i = .int .i64 q ∧ AllD ps ps.length q ∧ Loc w wr none [.cells #[.int .i64 ps.length, .slice aoz xs.length capz] 32]) (fun i _ _ _ _ => ps.length + 1 - (intOf i).toNat)
     case atStart => exact ⟨0, by omega, rfl, fun _ _ h => by omega, hloc⟩
     case round =>
      clear hloc
      obtain ⟨i, hi, rfl, had, hloc⟩ := hrel
      have Had := Lib.hid had
      clear had
      have c0 : wr.cell? ⟨w.heap.size, 0, none⟩ = some (.int .i64 ps.length) := hloc.cell 0 rfl 0
      by_cases hlt : i ≤ ps.length
      ·go_wp2_with fail
       go_loopw [7, 8, 9] (fun j _ _ wr => ∃ q : Nat, q ≤ ps.length + 1 ∧ j = .int .i64 q ∧ RowD ps i q ∧ Loc w wr none [.cells #[.int .i64 ps.length, .slice aoz xs.length capz] 32]) (fun j _ _ _ => ps.length + 1 - (intOf j).toNat)
       case atStart => exact ⟨0, by omega, rfl, fun _ h => by omega, hloc⟩
       case round =>
        clear hloc c0
        obtain ⟨j, hj, rfl, hrd, hloc⟩ := hrel
        have Hrd := Lib.hid hrd
        clear hrd
        have c0 : wr.cell? ⟨w.heap.size, 0, none⟩ = some (.int .i64 ps.length) := hloc.cell 0 rfl 0
        by_cases hlt2 : j ≤ ps.length
        ·have Hv1 := Lib.hid (Hvw.out.keepb (below_grownBy hloc.grown))
         have Hb1 := Lib.hid (below_grownBy hloc.grown)
         generalize hD : dif ps i j = D
         obtain ⟨⟨p, q⟩, x⟩ := D
         have HD := Lib.hid hD
         clear hD
         by_cases hx : x = 0
         ·subst hx
          have hst := Lib.hid (Hrd.out.succ (by rw [HD.out]))
          go_wp2_with (first
           | (go_at_call 86; (refine (r1_sub _ _ _ _ _).mono ?_); rintro e w3 ⟨he, hb3⟩; (obtain rfl : e = .returned (.tuple #[.agg #[.int .i64 p, .int .i64 q], .int .i64 0]) := he.trans (by rw [show subR (ck ps i).1 (ck ps i).2 (ck ps j).1 (ck ps j).2 = ((p, q), 0) from HD.out])))
           | (go_at_call 87; (first
            | ((with_reducible refine (ref_clock _ ps i _ Hv1.out (by omega)).mono ?_); rintro e w1 ⟨rfl, hb1⟩)
            | ((with_reducible refine (ref_clock _ ps j _ (Hv1.out.keepb hb1) (by omega)).mono ?_); rintro e w2 ⟨rfl, hb2⟩))))
          go_roundw
          case rel => exact ⟨j + 1, by omega, by go_num, hst.out, hloc.next (grownBy_below (bal (bt (bt hb1 hb2) hb3) _) none) (fun _ h => by cases h)⟩
          case measure => simp [intOf]; omega
         ·have hx' : (x != 0) = true := by simpa using hx
          have hres := Lib.hid (readyF_range Hfit.out HallP.out (fun h => by have := h i j (by omega) hlt2; rw [HD.out] at this; exact hx this))
          clear hx
          go_wp2_with (first
           | (go_at_call 86; (refine (r1_sub _ _ _ _ _).mono ?_); rintro e w3 ⟨he, hb3⟩; (obtain rfl : e = .returned (.tuple #[.agg #[.int .i64 p, .int .i64 q], .int .i64 x]) := he.trans (by rw [show subR (ck ps i).1 (ck ps i).2 (ck ps j).1 (ck ps j).2 = ((p, q), x) from HD.out])))
           | (go_at_call 87; (first
            | ((with_reducible refine (ref_clock _ ps i _ Hv1.out (by omega)).mono ?_); rintro e w1 ⟨rfl, hb1⟩)
            | ((with_reducible refine (ref_clock _ ps j _ (Hv1.out.keepb hb1) (by omega)).mono ?_); rintro e w2 ⟨rfl, hb2⟩))))
          go_ret
          exact ⟨ret_int hres.out.symm, bt Hb1.out (bal (bt (bt hb1 hb2) hb3) _)⟩
        ·have hd : decide ((j : Int) ≤ (ps.length : Int)) = false := by simp; omega
         have HQj := Lib.hid (show j = ps.length + 1 by omega)
         go_wp2_with fail
         go_roundw
         case rel => exact ⟨i + 1, by omega, by go_num, Had.out.succ (by rw [← HQj.out]; exact Hrd.out), hloc⟩
         case measure => simp [intOf]; omega
      ·have hd : decide ((i : Int) ≤ (ps.length : Int)) = false := by simp; omega
       have HQi := Lib.hid (show i = ps.length + 1 by omega)
       have hres := Lib.hid (readyF_ok Hfit.out HallP.out (by rw [← HQi.out]; exact Had.out))
       go_wp2_with fail
       go_ret
       exact ⟨ret_int hres.out.symm, below_grownBy hloc.grown⟩
  ·have hres := Lib.hid (readyF_fit (n := n) (xs := xs) (ps := ps) (fun h => by simp at hln; exact hln h.2))
   go_enter Tryz.func85, Tryz.ntmps85
   go_wp2_with fail
   refine (ref_check_ok _ _ xs _ Hz.out hok).mono ?_
   rintro e wa ⟨rfl, hba⟩
   have hloca := hloc0.next (grownBy_below hba none) (fun _ h => by cases h)
   have c0 : wa.cell? ⟨w.heap.size, 0, none⟩ = some (.int .i64 n) := hloca.cell 0 rfl 0
   clear hba hloc0
   go_wp2_with fail
   go_ret
   exact ⟨ret_int hres.out.symm, below_grownBy hloca.grown⟩
 ·have hres := Lib.hid (readyF_fit (n := n) (xs := xs) (ps := ps) (fun h => hok h.1))
  go_enter Tryz.func85, Tryz.ntmps85
  go_wp2_with fail
  refine (ref_check_bad _ _ xs _ Hz.out hok).mono ?_
  rintro e wa ⟨rfl, hba⟩
  have hloca := hloc0.next (grownBy_below hba none) (fun _ h => by cases h)
  clear hba hloc0
  go_wp2_with fail
  go_ret
  exact ⟨ret_int hres.out.symm, below_grownBy hloca.grown⟩
set_option maxRecDepth 100000 in
set_option maxHeartbeats 2000000 in
theorem ref_has (n : Int) (zv v : Value) (xs : List Int) (ps : List (Int × Int)) (w : World) (hz : RL w.heap.size w zv xs) (hv : RQ w.heap.size w v ps) :
  Calls Tryz.prog 24 #[.agg #[.int .i64 n, zv], v] w fun e w' => BE (hasF n xs ps) e ∧ Below w.heap.size w w' := by
 obtain ⟨aoz, capz, rfl, hlez, _⟩ := hz.open
 obtain ⟨ao, cap, rfl, hle, _⟩ := hv.open
 have hloc0 := Loc.one w (.cells #[.int .i64 n, .slice aoz xs.length capz] 32) none
 have Hz := Lib.hid (hz.keepb (below_grownBy hloc0.grown))
 have Hv := Lib.hid (hv.keepb (below_grownBy hloc0.grown))
 have Hzw := Lib.hid hz
 have Hvw := Lib.hid hv
 clear hz hv
 by_cases hr : readyF n xs ps = 0
 ·obtain ⟨hfit, hall, had⟩ := readyF_inv hr
  have Hr := Lib.hid hr
  obtain rfl : (ps.length : Int) = n := hfit.2
  have Hok := Lib.hid hfit.1
  have hN : ps.length ≤ 10 := by have := hfit.1.hi; omega
  have Hx := Lib.hid (show xs.length = (ps.length + 1) * (ps.length + 1) by have := hfit.1.len; rwa [Int.toNat_natCast] at this)
  clear hr hfit hall had
  go_enter Tryz.func24, Tryz.ntmps24
  go_wp2_with fail
  refine (ref_ready _ _ _ xs ps _ Hz.out Hv.out).mono ?_
  rw [Hr.out]
  rintro e wa ⟨rfl, hba⟩
  have hloca := hloc0.next (grownBy_below hba none) (fun _ h => by cases h)
  clear hba hloc0
  go_wp2_with fail
  go_loopw [7, 8, 9, 10, 11, 12] (fun i _ _ _ _ _ wr => ∃ q : Nat, q ≤ ps.length + 1 ∧ i = .int .i64 q ∧ AllM ps.length xs ps q ∧ Loc w wr none [.cells #[.int .i64 ps.length, .slice aoz xs.length capz] 32]) (fun i _ _ _ _ _ _ => ps.length + 1 - (intOf i).toNat)
  case atStart => exact ⟨0, by omega, rfl, fun _ _ h => by omega, hloca⟩
  case round =>
   clear hloca
   obtain ⟨i, hi, rfl, had, hloc⟩ := hrel
   have Had := Lib.hid had
   clear had
   have c0 : wr.cell? ⟨w.heap.size, 0, none⟩ = some (.int .i64 ps.length) := hloc.cell 0 rfl 0
   by_cases hlt : i ≤ ps.length
   ·go_wp2_with fail
    go_loopw [8, 9, 10, 11, 12] (fun j _ _ _ _ wr => ∃ q : Nat, q ≤ ps.length + 1 ∧ j = .int .i64 q ∧ RowM ps.length xs ps i q ∧ Loc w wr none [.cells #[.int .i64 ps.length, .slice aoz xs.length capz] 32]) (fun j _ _ _ _ _ => ps.length + 1 - (intOf j).toNat)
    case atStart => exact ⟨0, by omega, rfl, fun _ h => by omega, hloc⟩
    case round =>
     clear hloc c0
     obtain ⟨j, hj, rfl, hrd, hloc⟩ := hrel
     have Hrd := Lib.hid hrd
     clear hrd
     have c0 : wr.cell? ⟨w.heap.size, 0, none⟩ = some (.int .i64 ps.length) := hloc.cell 0 rfl 0
     have c1 : wr.cell? ⟨w.heap.size, 1, none⟩ = some (.slice aoz xs.length capz) := hloc.cell 0 rfl 1
     by_cases hlt2 : j ≤ ps.length
     ·have Hv1 := Lib.hid (Hvw.out.keepb (below_grownBy hloc.grown))
      have Hz1 := Lib.hid (Hzw.out.keepb (below_grownBy hloc.grown))
      have Hb1 := Lib.hid (below_grownBy hloc.grown)
      generalize hD : dif ps i j = D
      obtain ⟨⟨p, q⟩, x⟩ := D
      have HD := Lib.hid hD
      have hM : mt ps.length xs ps i j = (meetR p q (gi xs (i * (ps.length + 1) + j))).1 := by unfold mt; rw [hD]
      generalize hB : meetR p q (gi xs (i * (ps.length + 1) + j)) = B at hM
      obtain ⟨b, y⟩ := B
      have HB := Lib.hid hB
      have HM := Lib.hid hM
      clear hD hB hM
      go_wp2_with (first
       | (go_at_call 86; (refine (r1_sub _ _ _ _ _).mono ?_); rintro e w3 ⟨he, hb3⟩; (obtain rfl : e = .returned (.tuple #[.agg #[.int .i64 p, .int .i64 q], .int .i64 x]) := he.trans (by rw [show subR (ck ps i).1 (ck ps i).2 (ck ps j).1 (ck ps j).2 = ((p, q), x) from HD.out])))
       | (go_at_call 87; (first
        | ((with_reducible refine (ref_clock _ ps i _ Hv1.out (by omega)).mono ?_); rintro e w1 ⟨rfl, hb1⟩)
        | ((with_reducible refine (ref_clock _ ps j _ (Hv1.out.keepb hb1) (by omega)).mono ?_); rintro e w2 ⟨rfl, hb2⟩))))
      have hb4 := bal (bt (bt hb1 hb2) hb3) (.cells #[.int .i64 p, .int .i64 q] 56)
      have d0 := keepb c0 hb4
      have d1 := keepb c1 hb4
      have Hz4 := Lib.hid (Hz1.out.keepb hb4)
      have hlw : w.heap.size < w3.heap.size + 1 := by have := World.block_lt_of_cell? _ _ d0; simpa using this
      have r0 : (w3.alloc (.cells #[.int .i64 p, .int .i64 q] 56)).cell? ⟨w3.heap.size, 0, none⟩ = some (.int .i64 p) := by go_simp
      have r1 : (w3.alloc (.cells #[.int .i64 p, .int .i64 q] 56)).cell? ⟨w3.heap.size, 1, none⟩ = some (.int .i64 q) := by go_simp
      have hloc4 := hloc.next (grownBy_below hb4 none) (fun _ h => by cases h)
      have hs4 : (w3.alloc (.cells #[.int .i64 p, .int .i64 q] 56)).heap.size = w3.heap.size + 1 := by simp
      generalize hW4 : w3.alloc (.cells #[.int .i64 p, .int .i64 q] 56) = w4 at *
      generalize hR3 : w3.heap.size = R3 at *
      clear hb1 hb2 hb3 hb4 c0 c1 hloc hW4 hR3
      have e0 : w4.drew.cell? ⟨w.heap.size, 0, none⟩ = some (.int .i64 ps.length) := d0
      have e1 : w4.drew.cell? ⟨w.heap.size, 1, none⟩ = some (.slice aoz xs.length capz) := d1
      have e2 : w4.drew.cell? ⟨R3, 0, none⟩ = some (.int .i64 p) := r0
      have e3 : w4.drew.cell? ⟨R3, 1, none⟩ = some (.int .i64 q) := r1
      cases b
      ·have hres := Lib.hid (hasF_out Hr.out (fun h => by have := h i j (by omega) hlt2; rw [HM.out] at this; cases this))
       go_region_held3 (fun w' => w'.cell? ⟨w.heap.size, 0, none⟩ = some (.int .i64 ps.length) ∧ w'.cell? ⟨w.heap.size, 1, none⟩ = some (.slice aoz xs.length capz) ∧ w'.cell? ⟨R3, 0, none⟩ = some (.int .i64 p) ∧ w'.cell? ⟨R3, 1, none⟩ = some (.int .i64 q))
        (first | exact ⟨by assumption, by assumption, by assumption, by assumption⟩ | go_keep)
        (first
         | (go_at_call 89; refine (ref_at ps.length _ _ _ xs _ Hz4.out.drew hN (by omega) (by omega) (by omega) (by omega) Hx.out).mono ?_; rintro e w5 ⟨rfl, hb5⟩; have k0 := keepb e0 hb5; have k1 := keepb e1 hb5; have k2 := keepb e2 hb5; have k3 := keepb e3 hb5)
         | (go_at_call 88; refine (r2_meets _ _ _ _).mono ?_; rintro e w6 ⟨he, hb6⟩; (obtain rfl : e = .returned (.tuple #[.bool false, .int .i64 y]) := he.trans (by rw [HB.out])); have m0 := keepb k0 hb6; have m1 := keepb k1 hb6; have m2 := keepb k2 hb6; have m3 := keepb k3 hb6))
       go_wp2_with fail
       go_ret2
       exact ⟨BE.of hres.out, below_grownBy (hloc4.next (grownBy_below (bt (bt ((Below.refl w4.heap.size w4).drew) hb5) hb6) none) (fun _ h => by cases h)).grown⟩
      ·have hst := Lib.hid (Hrd.out.succ HM.out)
       go_region_held3 (fun w' => w'.cell? ⟨w.heap.size, 0, none⟩ = some (.int .i64 ps.length) ∧ w'.cell? ⟨w.heap.size, 1, none⟩ = some (.slice aoz xs.length capz) ∧ w'.cell? ⟨R3, 0, none⟩ = some (.int .i64 p) ∧ w'.cell? ⟨R3, 1, none⟩ = some (.int .i64 q))
        (first | exact ⟨by assumption, by assumption, by assumption, by assumption⟩ | go_keep)
        (first
         | (go_at_call 89; refine (ref_at ps.length _ _ _ xs _ Hz4.out.drew hN (by omega) (by omega) (by omega) (by omega) Hx.out).mono ?_; rintro e w5 ⟨rfl, hb5⟩; have k0 := keepb e0 hb5; have k1 := keepb e1 hb5; have k2 := keepb e2 hb5; have k3 := keepb e3 hb5)
         | (go_at_call 88; refine (r2_meets _ _ _ _).mono ?_; rintro e w6 ⟨he, hb6⟩; (obtain rfl : e = .returned (.tuple #[.bool true, .int .i64 y]) := he.trans (by rw [HB.out])); have m0 := keepb k0 hb6; have m1 := keepb k1 hb6; have m2 := keepb k2 hb6; have m3 := keepb k3 hb6))
       go_wp2_with fail
       go_roundw
       case rel => exact ⟨j + 1, by omega, by go_num, hst.out, hloc4.next (grownBy_below (bt (bt ((Below.refl w4.heap.size w4).drew) hb5) hb6) none) (fun _ h => by cases h)⟩
       case measure => simp [intOf]; omega
     ·have hd : decide ((j : Int) ≤ (ps.length : Int)) = false := by simp; omega
      have HQj := Lib.hid (show j = ps.length + 1 by omega)
      go_wp2_with fail
      go_roundw
      case rel => exact ⟨i + 1, by omega, by go_num, Had.out.succ (by rw [← HQj.out]; exact Hrd.out), hloc⟩
      case measure => simp [intOf]; omega
   ·have hd : decide ((i : Int) ≤ (ps.length : Int)) = false := by simp; omega
    have HQi := Lib.hid (show i = ps.length + 1 by omega)
    have hres := Lib.hid (hasF_in Hr.out (by rw [← HQi.out]; exact Had.out))
    go_wp2_with fail
    go_ret2
    exact ⟨BE.of hres.out, below_grownBy hloc.grown⟩
 ·have hres := Lib.hid (hasF_no (n := n) (xs := xs) (ps := ps) rfl hr)
  have hr' : (readyF n xs ps != 0) = true := by simpa using hr
  go_enter Tryz.func24, Tryz.ntmps24
  go_wp2_with fail
  refine (ref_ready _ _ _ xs ps _ Hz.out Hv.out).mono ?_
  rintro e wa ⟨rfl, hba⟩
  have hloca := hloc0.next (grownBy_below hba none) (fun _ h => by cases h)
  clear hba hloc0 hr
  generalize readyF n xs ps = x at *
  go_wp2_with fail
  go_ret2
  exact ⟨BE.of hres.out, below_grownBy hloca.grown⟩
end Go.Proofs.YtfphlpglgcmljaaGreat
