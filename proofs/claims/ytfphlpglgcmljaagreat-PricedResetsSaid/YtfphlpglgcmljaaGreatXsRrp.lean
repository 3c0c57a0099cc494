/- Part of the proof of priced_resets_proved: Rrp. -/
import Derived.Test.YtfphlpglgcmljaaGreatXsPrs
import Derived.Test.YtfphlpglgcmljaaGreatXsRag
namespace Go.Proofs.YtfphlpglgcmljaaGreat
open Go.RowKit
set_option linter.unusedVariables false
set_option maxRecDepth 100000 in
set_option maxHeartbeats 16000000 in
theorem ref_preset_zero (n c x tv : Int) (v rv : Value) (xs rs : List Int) (w : World) (hv : RL w.heap.size w v xs) (hr : RL w.heap.size w rv rs) (hcase : gi rs (x.toNat - 1) = 0) :
  Calls Tryz.prog 22 #[.agg #[.int .i64 n, v, .int .i64 c, rv], .agg #[.int .i64 x, .int .i64 tv]] w fun e w' => GaP w.heap.size (presetF n xs c rs x tv) e w' ∧ Below w.heap.size w w' := by
 have Hcase := Lib.hid hcase
 have Hv := Lib.hid hv
 have Hr := Lib.hid hr
 obtain ⟨ao, cap, rfl, hle, _⟩ := hv.open
 obtain ⟨aor, capr, rfl, hler, hcr⟩ := (RL.re hr).open
 have Hcr := Lib.hid hcr
 clear hv hr hcr hcase
 have hloc := Loc.two w (.cells #[.int .i64 n, .slice ao xs.length cap, .int .i64 c, .slice aor rs.length capr] 35) (.cells #[.int .i64 x, .int .i64 tv] 48) none
 have hbw := below_grownBy hloc.grown
 have hqz : ((w.alloc (.cells #[.int .i64 n, .slice ao xs.length cap, .int .i64 c, .slice aor rs.length capr] 35)).alloc (.cells #[.int .i64 x, .int .i64 tv] 48)).heap[w.heap.size]? = some (.cells #[.int .i64 n, .slice ao xs.length cap, .int .i64 c, .slice aor rs.length capr] 35 (0, 0)) := hloc.objs 0 (by simp)
 have hqq : ((w.alloc (.cells #[.int .i64 n, .slice ao xs.length cap, .int .i64 c, .slice aor rs.length capr] 35)).alloc (.cells #[.int .i64 x, .int .i64 tv] 48)).heap[w.heap.size + 1]? = some (.cells #[.int .i64 x, .int .i64 tv] 48 (0, 0)) := hloc.objs 1 (by simp)
 clear hloc
 go_enter Tryz.func22, Tryz.ntmps22
 go_upto_region 1 with fail
 generalize ((w.alloc (.cells #[.int .i64 n, .slice ao xs.length cap, .int .i64 c, .slice aor rs.length capr] 35)).alloc (.cells #[.int .i64 x, .int .i64 tv] 48)) = X1 at *
 have HW := Lib.hid hbw
 have HBz := Lib.hid hqz
 have HBq := Lib.hid hqq
 clear hbw hqz hqq
 have z0 : X1.cell? ⟨w.heap.size, 0, none⟩ = some (.int .i64 n) := cell_of_row _ (w.heap.size) 0 _ _ _ HBz.out
 have z1 : X1.cell? ⟨w.heap.size, 1, none⟩ = some (.slice ao xs.length cap) := cell_of_row _ (w.heap.size) 1 _ _ _ HBz.out
 have z2 : X1.cell? ⟨w.heap.size, 2, none⟩ = some (.int .i64 c) := cell_of_row _ (w.heap.size) 2 _ _ _ HBz.out
 have z3 : X1.cell? ⟨w.heap.size, 3, none⟩ = some (.slice aor rs.length capr) := cell_of_row _ (w.heap.size) 3 _ _ _ HBz.out
 go_wp2_with fail
 refine (ref_pcheck n c _ _ xs rs _ (Hv.out.keepb HW.out) (Hr.out.keepb HW.out)).mono ?_
 rintro e w1 ⟨rfl, hb⟩
 clear z0 z1 z2 z3
 replace HBz := Lib.hid (hp_keep4 HBz.out hb)
 replace HBq := Lib.hid (hp_keep4 HBq.out hb)
 replace HW := Lib.hid (bt HW.out hb)
 clear hb
 cases hpz : pzB n xs c rs with
 | false =>
  rw [pzE_no hpz]
  have HF := Lib.hid (preset_bad (fun h => by rw [hpz] at h; exact absurd h.1 (by simp)) : presetF n xs c rs x tv = ([], 2))
  go_wp2_with fail
  exact bodyPost_ret (v := .tuple #[.slice none 0 0, .int .i64 2]) (by simp [results, Tryz.results22, go_sem]) rfl ⟨GaP.err HF.out _, HW.out⟩
 | true =>
  rw [pzE_yes hpz]
  obtain ⟨N, rfl, hok, hlr, hc⟩ := pzB_nat hpz
  have hN : N ≤ 10 := by have := hok.hi; omega
  have Hok := Lib.hid hok
  have Hc := Lib.hid hc
  have Hlr := Lib.hid hlr
  have HPZ := Lib.hid (show pzB N xs c rs = true from hpz)
  clear hok hlr hc hpz
  have z0 : w1.cell? ⟨w.heap.size, 0, none⟩ = some (.int .i64 N) := cell_of_row _ (w.heap.size) 0 _ _ _ HBz.out
  have z1 : w1.cell? ⟨w.heap.size, 1, none⟩ = some (.slice ao xs.length cap) := cell_of_row _ (w.heap.size) 1 _ _ _ HBz.out
  have z2 : w1.cell? ⟨w.heap.size, 2, none⟩ = some (.int .i64 c) := cell_of_row _ (w.heap.size) 2 _ _ _ HBz.out
  have z3 : w1.cell? ⟨w.heap.size, 3, none⟩ = some (.slice aor rs.length capr) := cell_of_row _ (w.heap.size) 3 _ _ _ HBz.out
  have q0 : w1.cell? ⟨w.heap.size + 1, 0, none⟩ = some (.int .i64 x) := cell_of_row _ (w.heap.size + 1) 0 _ _ _ HBq.out
  have q1 : w1.cell? ⟨w.heap.size + 1, 1, none⟩ = some (.int .i64 tv) := cell_of_row _ (w.heap.size + 1) 1 _ _ _ HBq.out
  have hba := (Below.refl _ w1).alloc (Nat.le_refl _) (.cells #[.int .i64 x, .int .i64 tv] 48)
  have HRX := Lib.hid (show RX cdRes (w1.alloc (.cells #[.int .i64 x, .int .i64 tv] 48)).heap.size (w1.alloc (.cells #[.int .i64 x, .int .i64 tv] 48)) (.slice (some ⟨w1.heap.size, 0, none⟩) 1 1) [(x, tv)] from by rw [World.size_alloc]; exact rx_lit)
  go_wp2_with fail
  refine (ref_resets N _ [(x, tv)] _ HRX.out).mono ?_
  rw [rssB_one]
  rintro e w2 ⟨rfl, hb⟩
  replace hb := bt hba hb
  clear hba HRX
  clear z0 z1 z2 z3
  clear q0 q1
  replace HBz := Lib.hid (hp_keep4 HBz.out hb)
  replace HBq := Lib.hid (hp_keep4 HBq.out hb)
  replace HW := Lib.hid (bt HW.out hb)
  clear hb
  cases hrs : rsB N (x, tv) with
  | false =>
   have HF := Lib.hid (preset_bad (fun h => by rw [hrs] at h; exact absurd h.2 (by simp)) : presetF N xs c rs x tv = ([], 2))
   go_wp2_with fail
   exact bodyPost_ret (v := .tuple #[.slice none 0 0, .int .i64 2]) (by simp [results, Tryz.results22, go_sem]) rfl ⟨GaP.err HF.out _, HW.out⟩
  | true =>
   obtain ⟨hx1, hx2, ht1, ht2⟩ : 1 ≤ x ∧ x ≤ N ∧ 0 ≤ tv ∧ tv ≤ 1048576 := by
    unfold rsB btw at hrs
    simp only [Bool.and_eq_true, decide_eq_true_eq] at hrs
    exact ⟨hrs.1.1, hrs.1.2, hrs.2.1, hrs.2.2⟩
   obtain ⟨u, rfl⟩ := Int.eq_ofNat_of_zero_le (show 0 ≤ x by omega)
   have hu1 : 1 ≤ u := by omega
   have hu2 : u ≤ N := by omega
   have HPRE := Lib.hid (show pzB N xs c rs = true ∧ rsB N ((u : Int), tv) = true from ⟨HPZ.out, hrs⟩)
   have HRV := Lib.hid (reset_val Hok.out hu1 hu2 ht1 ht2)
   have HWS := Lib.hid (rsE_ok Hok.out hu1 hu2 ht1 ht2)
   generalize mkZ N (rsE N xs u tv) = ws at *
   clear hrs hx1 hx2 ht1 ht2
   have z0 : w2.cell? ⟨w.heap.size, 0, none⟩ = some (.int .i64 N) := cell_of_row _ (w.heap.size) 0 _ _ _ HBz.out
   have z1 : w2.cell? ⟨w.heap.size, 1, none⟩ = some (.slice ao xs.length cap) := cell_of_row _ (w.heap.size) 1 _ _ _ HBz.out
   have z2 : w2.cell? ⟨w.heap.size, 2, none⟩ = some (.int .i64 c) := cell_of_row _ (w.heap.size) 2 _ _ _ HBz.out
   have z3 : w2.cell? ⟨w.heap.size, 3, none⟩ = some (.slice aor rs.length capr) := cell_of_row _ (w.heap.size) 3 _ _ _ HBz.out
   have q0 : w2.cell? ⟨w.heap.size + 1, 0, none⟩ = some (.int .i64 (u : Int)) := cell_of_row _ (w.heap.size + 1) 0 _ _ _ HBq.out
   have q1 : w2.cell? ⟨w.heap.size + 1, 1, none⟩ = some (.int .i64 tv) := cell_of_row _ (w.heap.size + 1) 1 _ _ _ HBq.out
   go_wp2_with fail
   refine (ref_reset N u tv _ xs _ (Hv.out.keepb HW.out)).mono ?_
   rw [← reset_eq, HRV.out]
   rintro e w3 ⟨⟨va, he, hoa⟩, hb⟩
   obtain rfl : e = .returned (.tuple #[.agg #[.int .i64 N, va], .int .i64 0]) := he
   have hoa : OL _ _ _ _ ws := hoa
   obtain ⟨aoa, capa, rfl⟩ := owns_form hoa
   have HA := Lib.hid (OL.mono hoa (Nat.zero_le _))
   clear hoa
   clear z0 z1 z2 z3
   clear q0 q1
   replace HBz := Lib.hid (hp_keep4 HBz.out hb)
   replace HBq := Lib.hid (hp_keep4 HBq.out hb)
   replace HW := Lib.hid (bt HW.out hb)
   clear hb
   have hba := (Below.refl _ w3).alloc (Nat.le_refl _) (.cells #[.int .i64 N, .slice aoa ws.length capa] 32)
   have hqn := heap_alloc_new w3 (.cells #[.int .i64 N, .slice aoa ws.length capa] 32)
   have hqW := HW.out.size
   have hlz : w.heap.size < w3.heap.size := hp_lt3 HBz.out
   have hqz := hp_keep4 HBz.out hba
   have hlq : w.heap.size + 1 < w3.heap.size := hp_lt3 HBq.out
   have hqq := hp_keep4 HBq.out hba
   have hqHA := OL.keepb HA.out hba
   have hqw := bt HW.out hba
   clear hba HW HBz HBq HA
   go_upto_region 5 with fail
   generalize hgen : w3.alloc (.cells #[.int .i64 N, .slice aoa ws.length capa] 32) = X3 at *
   clear hgen
   generalize hgen : w3.heap.size = A at *
   clear hgen
   have HBa := Lib.hid hqn
   have HBz := Lib.hid hqz
   have HBq := Lib.hid hqq
   have HA := Lib.hid hqHA
   have HW := Lib.hid hqw
   clear hqn hqw hqz hqq hqHA
   obtain ⟨y, hy⟩ : ∃ y, u = y + 1 := ⟨u - 1, (Nat.succ_pred_eq_of_pos hu1).symm⟩
   have hxy : (u : Int) - 1 = (y : Int) := by omega
   have hyx : u - 1 = y := by omega
   have y0 : (y : Int) < (rs.length : Int) := by have := Hlr.out; omega
   have y1 : (0 : Int) ≤ (y : Int) := by omega
   obtain ⟨br, offr, rfl, hbr, hccr⟩ := Hcr.out (by have := Hlr.out; omega)
   obtain ⟨s, hs⟩ : ∃ s, gi rs y = s := ⟨_, rfl⟩
   have HSL := Lib.hid (show gi rs (u - 1) = s by rw [hyx]; exact hs)
   have hcs := Hcase.out
   rw [Int.toNat_natCast, HSL.out] at hcs
   have e0 : X3.cell? ⟨br, offr + y, none⟩ = some (.int .i64 s) := by
    have h2 := ((bcell HW.out).1 br (offr + (y * 1 + 0)) hbr).trans (hccr y 0 (by omega) (by decide))
    rw [show offr + y = offr + (y * 1 + 0) by omega]
    rw [h2, ← hs]
    rfl
   clear hccr hs hy
   have z0 : X3.cell? ⟨w.heap.size, 0, none⟩ = some (.int .i64 N) := cell_of_row _ (w.heap.size) 0 _ _ _ HBz.out
   have z1 : X3.cell? ⟨w.heap.size, 1, none⟩ = some (.slice ao xs.length cap) := cell_of_row _ (w.heap.size) 1 _ _ _ HBz.out
   have z2 : X3.cell? ⟨w.heap.size, 2, none⟩ = some (.int .i64 c) := cell_of_row _ (w.heap.size) 2 _ _ _ HBz.out
   have z3 : X3.cell? ⟨w.heap.size, 3, none⟩ = some (.slice (some ⟨br, offr, none⟩) rs.length capr) := cell_of_row _ (w.heap.size) 3 _ _ _ HBz.out
   go_upto_region 6 with fail
   clear z0 z1 z2 z3 e0
   subst hcs
   have hsb : ((0 : Int) == 0) = true := by simp
   have z0 : X3.cell? ⟨w.heap.size, 0, none⟩ = some (.int .i64 N) := cell_of_row _ (w.heap.size) 0 _ _ _ HBz.out
   have z1 : X3.cell? ⟨w.heap.size, 1, none⟩ = some (.slice ao xs.length cap) := cell_of_row _ (w.heap.size) 1 _ _ _ HBz.out
   have z2 : X3.cell? ⟨w.heap.size, 2, none⟩ = some (.int .i64 c) := cell_of_row _ (w.heap.size) 2 _ _ _ HBz.out
   have z3 : X3.cell? ⟨w.heap.size, 3, none⟩ = some (.slice (some ⟨br, offr, none⟩) rs.length capr) := cell_of_row _ (w.heap.size) 3 _ _ _ HBz.out
   have a0 : X3.cell? ⟨A, 0, none⟩ = some (.int .i64 N) := cell_of_row _ (A) 0 _ _ _ HBa.out
   have a1 : X3.cell? ⟨A, 1, none⟩ = some (.slice aoa ws.length capa) := cell_of_row _ (A) 1 _ _ _ HBa.out
   go_wp2_with fail
   refine (ref_part N 0 c 0 0 _ _ _ xs rs ws _ (Hv.out.keepb HW.out) (Hr.out.keepb HW.out) (OL.rl HA.out) Hok.out HWS.out Hlr.out (Nat.zero_le _)).mono ?_
   rintro e w6 ⟨⟨rv', he, hrv⟩, hb⟩
   clear z0 z1 z2 z3
   clear a0 a1
   replace HBz := Lib.hid (hp_keep4 HBz.out hb)
   replace HBq := Lib.hid (hp_keep4 HBq.out hb)
   replace HBa := Lib.hid (hp_keep4 HBa.out hb)
   replace HA := Lib.hid (OL.keepb HA.out hb)
   replace HW := Lib.hid (bt HW.out hb)
   clear hb
   rcases onF_two N xs c rs ws 0 0 0 with ⟨C, R, hQ⟩ | hQ
   rotate_left
   ·rw [hQ] at he hrv
    obtain rfl : e = .returned (.tuple #[.agg #[.int .i64 0, .slice none 0 0, .int .i64 0, rv'], .int .i64 7]) := he
    obtain ⟨ao9, cap9, rfl⟩ := owns_form hrv
    have HF := Lib.hid (preset_err HPRE.out HSL.out HRV.out hQ (by decide))
    clear hrv hQ
    have hba := (Below.refl _ w6).alloc (Nat.le_refl _) (.cells #[.int .i64 0, .slice none 0 0, .int .i64 0, .slice ao9 (pv0.rs).length cap9] 35)
    have hqn := heap_alloc_new w6 (.cells #[.int .i64 0, .slice none 0 0, .int .i64 0, .slice ao9 (pv0.rs).length cap9] 35)
    have hqW := HW.out.size
    have hlz : w.heap.size < w6.heap.size := hp_lt3 HBz.out
    have hqz := hp_keep4 HBz.out hba
    have hlq : w.heap.size + 1 < w6.heap.size := hp_lt3 HBq.out
    have hqq := hp_keep4 HBq.out hba
    have hla : A < w6.heap.size := hp_lt3 HBa.out
    have hqa := hp_keep4 HBa.out hba
    have hqHA := OL.keepb HA.out hba
    have hqw := bt HW.out hba
    clear hba HW HBz HBq HBa HA
    go_upto_region 8 with fail
    generalize hgen : w6.alloc (.cells #[.int .i64 0, .slice none 0 0, .int .i64 0, .slice ao9 (pv0.rs).length cap9] 35) = X8 at *
    clear hgen
    generalize hgen : w6.heap.size = Y8 at *
    clear hgen
    have HBo := Lib.hid hqn
    have HBz := Lib.hid hqz
    have HBq := Lib.hid hqq
    have HBa := Lib.hid hqa
    have HA := Lib.hid hqHA
    have HW := Lib.hid hqw
    clear hqn hqw hqz hqq hqa hqHA
    have HF2 := Lib.hid (show GaP w.heap.size (presetF N xs c rs u tv) (.returned (.tuple #[.slice none 0 0, .int .i64 7])) X8 from GaP.err HF.out X8)
    go_wp2_with fail
    exact bodyPost_ret (v := .tuple #[.slice none 0 0, .int .i64 7]) (by simp [results, Tryz.results22, go_sem]) rfl ⟨HF2.out, HW.out⟩
   rw [hQ] at he hrv
   obtain rfl : e = .returned (.tuple #[.agg #[.int .i64 N, .slice aoa ws.length capa, .int .i64 C, rv'], .int .i64 0]) := he
   have hrv : OL _ _ _ rv' R := hrv
   obtain ⟨ao9, cap9, rfl⟩ := owns_form hrv
   have HF := Lib.hid (preset_one HPRE.out HSL.out HRV.out hQ)
   have HR := Lib.hid (OL.mono hrv (Nat.zero_le _))
   clear hrv hQ
   have hba := (Below.refl _ w6).alloc (Nat.le_refl _) (.cells #[.int .i64 N, .slice aoa ws.length capa, .int .i64 C, .slice ao9 R.length cap9] 35)
   have hqn := heap_alloc_new w6 (.cells #[.int .i64 N, .slice aoa ws.length capa, .int .i64 C, .slice ao9 R.length cap9] 35)
   have hqW := HW.out.size
   have hlz : w.heap.size < w6.heap.size := hp_lt3 HBz.out
   have hqz := hp_keep4 HBz.out hba
   have hlq : w.heap.size + 1 < w6.heap.size := hp_lt3 HBq.out
   have hqq := hp_keep4 HBq.out hba
   have hla : A < w6.heap.size := hp_lt3 HBa.out
   have hqa := hp_keep4 HBa.out hba
   have hqHA := OL.keepb HA.out hba
   have hqHR := OL.keepb HR.out hba
   have hqw := bt HW.out hba
   clear hba HW HBz HBq HBa HA HR
   go_upto_region 10 with fail
   generalize hgen : w6.alloc (.cells #[.int .i64 N, .slice aoa ws.length capa, .int .i64 C, .slice ao9 R.length cap9] 35) = X8 at *
   clear hgen
   generalize hgen : w6.heap.size = Y8 at *
   clear hgen
   have HBo := Lib.hid hqn
   have HBz := Lib.hid hqz
   have HBq := Lib.hid hqq
   have HBa := Lib.hid hqa
   have HA := Lib.hid hqHA
   have HR := Lib.hid hqHR
   have HW := Lib.hid hqw
   clear hqn hqw hqz hqq hqa hqHA hqHR
   have o0 : X8.cell? ⟨Y8, 0, none⟩ = some (.int .i64 N) := cell_of_row _ (Y8) 0 _ _ _ HBo.out
   have o1 : X8.cell? ⟨Y8, 1, none⟩ = some (.slice aoa ws.length capa) := cell_of_row _ (Y8) 1 _ _ _ HBo.out
   have o2 : X8.cell? ⟨Y8, 2, none⟩ = some (.int .i64 C) := cell_of_row _ (Y8) 2 _ _ _ HBo.out
   have o3 : X8.cell? ⟨Y8, 3, none⟩ = some (.slice ao9 R.length cap9) := cell_of_row _ (Y8) 3 _ _ _ HBo.out
   have hba := (Below.refl _ X8).alloc (Nat.le_refl _) (.cells #[.int .i64 N, .slice aoa ws.length capa, .int .i64 C, .slice ao9 R.length cap9] 35)
   have HE := Lib.hid (show GaP w.heap.size (presetF N xs c rs u tv) (.returned (.tuple #[.slice (some ⟨X8.heap.size, 0, none⟩) 1 1, .int .i64 0])) (X8.alloc (.cells #[.int .i64 N, .slice aoa ws.length capa, .int .i64 C, .slice ao9 R.length cap9] 35)) ∧ Below w.heap.size w (X8.alloc (.cells #[.int .i64 N, .slice aoa ws.length capa, .int .i64 C, .slice ao9 R.length cap9] 35)) from
    ⟨GaP.ok HF.out (own_litz (x := ⟨N, .slice aoa ws.length capa, ws, C, .slice ao9 R.length cap9, R⟩) HW.out.size rfl) (LZ.snoc (x := ⟨N, .slice aoa ws.length capa, ws, C, .slice ao9 R.length cap9, R⟩) (LZ.nil _) (OL.keepb HA.out hba) (OL.keepb HR.out hba)) rfl, bt HW.out hba⟩)
   go_wp2_with fail
   exact bodyPost_ret (v := .tuple #[.slice (some ⟨X8.heap.size, 0, none⟩) 1 1, .int .i64 0]) (by simp [results, Tryz.results22, go_sem]) rfl HE.out
end Go.Proofs.YtfphlpglgcmljaaGreat
